/- Contract of build: the tables of an index. -/
import Derived.Test.YtkhdielfnphheaaChk
import Derived.Test.YtkhdielfnphheaaFnd
import Derived.Test.YtkhdielfnphheaaOnc
namespace Go.Proofs.Ytkhdielfnphheaa
open Go.RowKit

def nmR (S : Sc) (j : Nat) : Int := S.R j 0
def nmP (S : Sc) (j : Nat) : Int := (S.P j).id
def nmG (S : Sc) (j : Nat) : Int := (S.G j).code
def nmF (N : Nat → Int) (j _t : Nat) : Value := .int .i64 (N j)
theorem Try.info3 : (Try.prog.info? 3).map (fun i => (i.zero, i.size, i.bytes)) = some (some (.int .i64 0), 1, 8) := by kernel_rfl
theorem Try.under55 : Try.prog.underlying 55 = some (.slice 3) := by kernel_rfl
theorem names_of {w : World} {B n : Nat} {v : Value} {N : Nat → Int} (h : w.ownsRow B 3 1 v n (flat 1 (nmF N) n)) : ∃ a c, v = .slice a n c ∧ NamesV w a n N := by
  rcases h.2 with ⟨h1, h2⟩ | ⟨g, cap, cur, h1, _, _⟩
  · exact ⟨none, 0, by rw [h1, h2], fun h => by omega⟩
  · refine ⟨_, _, h1, fun _ => ⟨g, 0, rfl, fun j hj => ?_⟩⟩
    have hc := h.cells (g := g) (by rw [h1]; rfl) (j * 1 + 0) _ (flat_get hj (by omega))
    have hadd : (⟨g, 0, none⟩ : Addr).add (j * 1 + 0) = ⟨g, 0 + j, none⟩ := by unfold Addr.add; split <;> simp_all
    rw [hadd] at hc
    exact hc
theorem NamesV.later {w w1 : World} {a : Option Addr} {n : Nat} {N : Nat → Int} (h : NamesV w a n N) (hb : Below w.heap.size w w1) : NamesV w1 a n N := by
  intro h0
  obtain ⟨g, off, ha, hc⟩ := h h0
  exact ⟨g, off, ha, fun j hj => cell_later hb (hc j hj)⟩
theorem TabV.slice {B : Nat} {w : World} {v : Value} {tw : Bool} {N : Nat → Int} {n : Nat} (h : TabV B w v tw N n) : ∃ p m c, v = .slice p m c := by
  obtain ⟨T, _, _, p, cap, h3, _⟩ := h
  exact ⟨p, _, cap, h3⟩
theorem TabV.sets {X B : Nat} {w : World} {v : Value} {tw : Bool} {N : Nat → Int} {n : Nat} (h : TabV B w v tw N n) (hX : X < B) (u1 u2 u3 u4 u5 u6 : Value) :
    TabV B ((((((w.setCell ⟨X, 17, none⟩ u1).setCell ⟨X, 18, none⟩ u2).setCell ⟨X, 19, none⟩ u3).setCell ⟨X, 20, none⟩ u4).setCell ⟨X, 21, none⟩ u5).setCell ⟨X, 22, none⟩ u6) v tw N n :=
  (((((h.far u1 hX).far u2 hX).far u3 hX).far u4 hX).far u5 hX).far u6 hX
/-- the index is built -/
def BuildQ (S : Sc) (X : Nat) (hd rm gl pc : Value) (w w' : World) : Prop := ∃ t1 b1 t2 b2 t3 b3, BxAt w' X (xcells hd rm gl pc 0 1 1 t1 b1 t2 b2 t3 b3 (wrongB S (b1 || (b3 || b2)))) ∧
  TabV w.heap.size w' t1 b1 (nmR S) S.nr ∧ TabV w.heap.size w' t2 b2 (nmP S) S.np ∧ TabV w.heap.size w' t3 b3 (nmG S) S.ng ∧ FrmA w w' X
def BuildPost (S : Sc) (X : Nat) (hd rm gl pc : Value) (w : World) (e : Ending) (w' : World) : Prop := e = .returned (.tuple #[]) ∧ BuildQ S X hd rm gl pc w w'
set_option maxRecDepth 100000 in
set_option maxHeartbeats 6400000 in
theorem build_any (S : Sc) (X : Nat) (hd rm gl pc : Value) (w : World) (hX : BxAt w X (xcells hd rm gl pc 0 1 0 (.slice none 0 0) false (.slice none 0 0) false (.slice none 0 0) false 0)) (hH : ∃ a c, hd = .slice a S.nh c) (hD : Kept (X + 1) (DataV S rm gl pc) w) (ok : ScOk S) :
    Calls Try.prog 37 #[.pointer (some ⟨X, 0, none⟩)] w (BuildPost S X hd rm gl pc w) := by
  obtain ⟨i0, hi, hz0, hz1, hz2⟩ := info_parts Try.info3
  obtain ⟨rp, rc, rfl⟩ : ∃ a c, rm = .slice a S.nr c := hD.now.1.slice
  obtain ⟨gp, gc, rfl⟩ : ∃ a c, gl = .slice a S.ng c := by obtain ⟨_, h, _⟩ := hD.now.2.1; exact h.slice
  obtain ⟨pp, pk, rfl⟩ : ∃ a c, pc = .slice a S.np c := by obtain ⟨_, h, _⟩ := hD.now.2.2; exact h.slice
  have XX := Lib.hid hX
  have KD := Lib.hid hD
  have DD := Lib.hid hD.now
  have OK := Lib.hid ok
  have HH := Lib.hid hH
  have x9 := hX.2.2 9 _ rfl
  have nrb : S.nr ≤ 3600000000000 := by have := ok.br; omega
  have npb : S.np ≤ 3600000000000 := by have := ok.bp; omega
  have ngb : S.ng ≤ 3600000000000 := by have := ok.bg; omega
  clear hX hD ok hH
  go_enter Try.func37, Try.ntmps37
  go_wp2_with fail
  clear x9
  go_loopw [2, 17] (fun v x wr => ∃ k : Nat, x = .int .i64 k ∧ k ≤ S.nr ∧ Hid (wr.ownsRow w.heap.size 3 1 v k (flat 1 (nmF (nmR S)) k)) ∧ Hid (Below w.heap.size w wr)) (fun _ x _ => S.nr - (intOf x).toNat)
  case atStart => exact ⟨0, rfl, by omega, Lib.hid (World.ownsRow_nil _ _ _ _), Lib.hid (Below.refl _ _)⟩
  case round =>
    obtain ⟨k, rfl, hk, ho, hb⟩ := hrel
    have hbw := Lib.hid (hb.out)
    by_cases hlt : k < S.nr
    · have hrow := DD.out.1
      obtain ⟨a, cap, he, hnn, hcell⟩ := hrow.later hbw.out
      obtain ⟨g, off, rfl, hc3⟩ := hcell (by omega)
      obtain ⟨rfl, rfl⟩ : rp = some ⟨g, off, none⟩ ∧ rc = cap := by simpa using he
      have c0 : wr.cell? ⟨g, off + k * 15, none⟩ = some (.int .i64 (S.R k 0)) := hc3 k 0 hlt (by omega)
      have c1 : wr.cell? ⟨g, off + k * 15 + 1, none⟩ = some (.int .i64 (S.R k 1)) := hc3 k 1 hlt (by omega)
      have c2 : wr.cell? ⟨g, off + k * 15 + 2, none⟩ = some (.int .i64 (S.R k 2)) := hc3 k 2 hlt (by omega)
      have c3 : wr.cell? ⟨g, off + k * 15 + 3, none⟩ = some (.int .i64 (S.R k 3)) := hc3 k 3 hlt (by omega)
      have c4 : wr.cell? ⟨g, off + k * 15 + 4, none⟩ = some (.int .i64 (S.R k 4)) := hc3 k 4 hlt (by omega)
      have c5 : wr.cell? ⟨g, off + k * 15 + 5, none⟩ = some (.int .i64 (S.R k 5)) := hc3 k 5 hlt (by omega)
      have c6 : wr.cell? ⟨g, off + k * 15 + 6, none⟩ = some (.int .i64 (S.R k 6)) := hc3 k 6 hlt (by omega)
      have c7 : wr.cell? ⟨g, off + k * 15 + 7, none⟩ = some (.int .u8 (S.R k 7)) := hc3 k 7 hlt (by omega)
      have c8 : wr.cell? ⟨g, off + k * 15 + 8, none⟩ = some (.int .u8 (S.R k 8)) := hc3 k 8 hlt (by omega)
      have c9 : wr.cell? ⟨g, off + k * 15 + 9, none⟩ = some (.int .u8 (S.R k 9)) := hc3 k 9 hlt (by omega)
      have c10 : wr.cell? ⟨g, off + k * 15 + 10, none⟩ = some (.int .u8 (S.R k 10)) := hc3 k 10 hlt (by omega)
      have c11 : wr.cell? ⟨g, off + k * 15 + 11, none⟩ = some (.int .u8 (S.R k 11)) := hc3 k 11 hlt (by omega)
      have c12 : wr.cell? ⟨g, off + k * 15 + 12, none⟩ = some (.int .u8 (S.R k 12)) := hc3 k 12 hlt (by omega)
      have c13 : wr.cell? ⟨g, off + k * 15 + 13, none⟩ = some (.int .u8 (S.R k 13)) := hc3 k 13 hlt (by omega)
      have c14 : wr.cell? ⟨g, off + k * 15 + 14, none⟩ = some (.int .u8 (S.R k 14)) := hc3 k 14 hlt (by omega)
      have kI : (k : Int) < (S.nr : Int) := by omega
      have k0 : (0 : Int) ≤ (k : Int) := by omega
      clear hc3 hcell hnn he hrow
      go_upto_region 4 with (fail)
      have Ba := Lib.hid (below_alloc wr (.cells #[.int .i64 (S.R k 0), .int .i64 (S.R k 1), .int .i64 (S.R k 2), .int .i64 (S.R k 3), .int .i64 (S.R k 4), .int .i64 (S.R k 5), .int .i64 (S.R k 6), .int .u8 (S.R k 7), .int .u8 (S.R k 8), .int .u8 (S.R k 9), .int .u8 (S.R k 10), .int .u8 (S.R k 11), .int .u8 (S.R k 12), .int .u8 (S.R k 13), .int .u8 (S.R k 14)] 58))
      have Xa := (BxAt.new wr [.int .i64 (S.R k 0), .int .i64 (S.R k 1), .int .i64 (S.R k 2), .int .i64 (S.R k 3), .int .i64 (S.R k 4), .int .i64 (S.R k 5), .int .i64 (S.R k 6), .int .u8 (S.R k 7), .int .u8 (S.R k 8), .int .u8 (S.R k 9), .int .u8 (S.R k 10), .int .u8 (S.R k 11), .int .u8 (S.R k 12), .int .u8 (S.R k 13), .int .u8 (S.R k 14)] 58).2.2 0 _ rfl
      obtain ⟨wa, hwa⟩ : ∃ wa, wa = wr.alloc (.cells #[.int .i64 (S.R k 0), .int .i64 (S.R k 1), .int .i64 (S.R k 2), .int .i64 (S.R k 3), .int .i64 (S.R k 4), .int .i64 (S.R k 5), .int .i64 (S.R k 6), .int .u8 (S.R k 7), .int .u8 (S.R k 8), .int .u8 (S.R k 9), .int .u8 (S.R k 10), .int .u8 (S.R k 11), .int .u8 (S.R k 12), .int .u8 (S.R k 13), .int .u8 (S.R k 14)] 58) := ⟨_, rfl⟩
      rw [← hwa] at Ba ⊢
      have Xb : wa.cell? ⟨wr.heap.size, 0, none⟩ = some (.int .i64 (nmR S k)) := by rw [hwa]; exact Xa
      have OA := Lib.hid (own_later ho.out Ba.out)
      have SA : w.heap.size ≤ wa.heap.size := Nat.le_trans hb.out.size Ba.out.size
      clear hwa c0 c1 c2 c3 c4 c5 c6 c7 c8 c9 c10 c11 c12 c13 c14 Xa
      go_wp2_with (at_builtin; go_loud (refine wpList_app (w0 := wa) rfl (.tmp 21) (.tmp 24) 55 rfl w.heap.size 3 i0 (.int .i64 0) 1 8 [.int .i64 (nmR S k)] Try.under55 hi hz0 hz1 hz2 rfl rfl (by decide) _ _ _ rfl OA.out (by first | rfl | (simp; rfl) | simp) (by simp [Value.oneCell']) ?c1 ?c2 SA ?_))
      case c1 => unfold maxLen; omega
      case c2 => omega
      intro g' cap' w5 own5 hb5
      have O5 := Lib.hid own5
      have B5 := Lib.hid (hb.out.trans ((Ba.out.mono hb.out.size).trans hb5))
      clear own5 hb5 Xb
      go_wp2_with fail
      exact ⟨⟨k + 1, by go_num, by omega, Lib.hid (by rw [flat_succ]; exact O5.out), B5⟩, by (first | (simp [intOf]; done) | (simp [intOf]; omega) | (simp only [intOf]; omega))⟩
    · obtain rfl : k = S.nr := by omega
      have kI : ¬ (S.nr : Int) < (S.nr : Int) := by omega
      have x11 := cell_later hbw.out (XX.out.2.2 11 _ rfl)
      obtain ⟨a1, q1, rfl, hn1⟩ := names_of ho.out
      have N1 := Lib.hid hn1
      go_wp2_with fail
      obtain ⟨wo, rfl⟩ : ∃ wo : World, wo = wr := ⟨_, rfl⟩
      have HBo := hbw
      clear kI x11 hn1 hb ho hbw
      as_aux_lemma =>
      go_loopw [3, 33] (fun v x wr => ∃ k : Nat, x = .int .i64 k ∧ k ≤ S.np ∧ Hid (wr.ownsRow wo.heap.size 3 1 v k (flat 1 (nmF (nmP S)) k)) ∧ Hid (Below wo.heap.size wo wr)) (fun _ x _ => S.np - (intOf x).toNat)
      case atStart => exact ⟨0, rfl, by omega, Lib.hid (World.ownsRow_nil _ _ _ _), Lib.hid (Below.refl _ _)⟩
      case round =>
        obtain ⟨k, rfl, hk, ho, hb⟩ := hrel
        have hbw := Lib.hid (bthen HBo.out hb.out)
        by_cases hlt : k < S.np
        · obtain ⟨_, _, sv, hrow, hst⟩ := DD.out
          obtain ⟨a, cap, he, hnn, hcell⟩ := hrow.later hbw.out
          obtain ⟨g, off, rfl, hc3⟩ := hcell (by omega)
          obtain ⟨rfl, rfl⟩ : pp = some ⟨g, off, none⟩ ∧ pk = cap := by simpa using he
          have c0 : wr.cell? ⟨g, off + k * 4, none⟩ = some (.int .i64 (S.P k).id) := hc3 k 0 hlt (by omega)
          have c1 : wr.cell? ⟨g, off + k * 4 + 1, none⟩ = some (.int .i64 (S.P k).pw) := hc3 k 1 hlt (by omega)
          have c2 : wr.cell? ⟨g, off + k * 4 + 2, none⟩ = some (.int .i64 (S.P k).ph) := hc3 k 2 hlt (by omega)
          have c3 : wr.cell? ⟨g, off + k * 4 + 3, none⟩ = some (sv k) := hc3 k 3 hlt (by omega)
          obtain ⟨sp, sc, hs⟩ := (hst k hlt).slice
          rw [hs] at c3
          have kI : (k : Int) < (S.np : Int) := by omega
          have k0 : (0 : Int) ≤ (k : Int) := by omega
          clear hc3 hcell hnn he hrow hst hs
          go_upto_region 9 with (fail)
          have Ba := Lib.hid (below_alloc wr (.cells #[.int .i64 (S.P k).id, .int .i64 (S.P k).pw, .int .i64 (S.P k).ph, .slice sp (S.P k).n sc] 101))
          have Xa := (BxAt.new wr [.int .i64 (S.P k).id, .int .i64 (S.P k).pw, .int .i64 (S.P k).ph, .slice sp (S.P k).n sc] 101).2.2 0 _ rfl
          obtain ⟨wa, hwa⟩ : ∃ wa, wa = wr.alloc (.cells #[.int .i64 (S.P k).id, .int .i64 (S.P k).pw, .int .i64 (S.P k).ph, .slice sp (S.P k).n sc] 101) := ⟨_, rfl⟩
          rw [← hwa] at Ba ⊢
          have Xb : wa.cell? ⟨wr.heap.size, 0, none⟩ = some (.int .i64 (nmP S k)) := by rw [hwa]; exact Xa
          have OA := Lib.hid (own_later ho.out Ba.out)
          have SA : wo.heap.size ≤ wa.heap.size := Nat.le_trans hb.out.size Ba.out.size
          clear hwa c0 c1 c2 c3 Xa
          go_wp2_with (at_builtin; go_loud (refine wpList_app (w0 := wa) rfl (.tmp 37) (.tmp 40) 55 rfl wo.heap.size 3 i0 (.int .i64 0) 1 8 [.int .i64 (nmP S k)] Try.under55 hi hz0 hz1 hz2 rfl rfl (by decide) _ _ _ rfl OA.out (by first | rfl | (simp; rfl) | simp) (by simp [Value.oneCell']) ?c1 ?c2 SA ?_))
          case c1 => unfold maxLen; omega
          case c2 => omega
          intro g' cap' w5 own5 hb5
          have O5 := Lib.hid own5
          have B5 := Lib.hid (hb.out.trans ((Ba.out.mono hb.out.size).trans hb5))
          clear own5 hb5 Xb
          go_wp2_with fail
          exact ⟨⟨k + 1, by go_num, by omega, Lib.hid (by rw [flat_succ]; exact O5.out), B5⟩, by (first | (simp [intOf]; done) | (simp [intOf]; omega) | (simp only [intOf]; omega))⟩
        · obtain rfl : k = S.np := by omega
          have kI : ¬ (S.np : Int) < (S.np : Int) := by omega
          have x10 := cell_later hbw.out (XX.out.2.2 10 _ rfl)
          obtain ⟨a2, q2, rfl, hn2⟩ := names_of ho.out
          have N2 := Lib.hid hn2
          go_wp2_with fail
          obtain ⟨wp, rfl⟩ : ∃ wp : World, wp = wr := ⟨_, rfl⟩
          have HBp := hbw
          have HO := hb
          clear kI x10 hn2 hb ho hbw
          as_aux_lemma =>
          go_loopw [4, 49] (fun v x wr => ∃ k : Nat, x = .int .i64 k ∧ k ≤ S.ng ∧ Hid (wr.ownsRow wp.heap.size 3 1 v k (flat 1 (nmF (nmG S)) k)) ∧ Hid (Below wp.heap.size wp wr)) (fun _ x _ => S.ng - (intOf x).toNat)
          case atStart => exact ⟨0, rfl, by omega, Lib.hid (World.ownsRow_nil _ _ _ _), Lib.hid (Below.refl _ _)⟩
          case round =>
            obtain ⟨k, rfl, hk, ho, hb⟩ := hrel
            have hbw := Lib.hid (bthen HBp.out hb.out)
            by_cases hlt : k < S.ng
            · obtain ⟨_, ⟨sv, hrow, hst⟩, _⟩ := DD.out
              obtain ⟨a, cap, he, hnn, hcell⟩ := hrow.later hbw.out
              obtain ⟨g, off, rfl, hc3⟩ := hcell (by omega)
              obtain ⟨rfl, rfl⟩ : gp = some ⟨g, off, none⟩ ∧ gc = cap := by simpa using he
              have c0 : wr.cell? ⟨g, off + k * 3, none⟩ = some (.int .i64 (S.G k).code) := hc3 k 0 hlt (by omega)
              have c1 : wr.cell? ⟨g, off + k * 3 + 1, none⟩ = some (.int .i64 (S.G k).adv) := hc3 k 1 hlt (by omega)
              have c2 : wr.cell? ⟨g, off + k * 3 + 2, none⟩ = some (sv k) := hc3 k 2 hlt (by omega)
              obtain ⟨sp, sc, hs⟩ := (hst k hlt).slice
              rw [hs] at c2
              have kI : (k : Int) < (S.ng : Int) := by omega
              have k0 : (0 : Int) ≤ (k : Int) := by omega
              clear hc3 hcell hnn he hrow hst hs
              go_upto_region 14 with (fail)
              have Ba := Lib.hid (below_alloc wr (.cells #[.int .i64 (S.G k).code, .int .i64 (S.G k).adv, .slice sp (S.G k).n sc] 66))
              have Xa := (BxAt.new wr [.int .i64 (S.G k).code, .int .i64 (S.G k).adv, .slice sp (S.G k).n sc] 66).2.2 0 _ rfl
              obtain ⟨wa, hwa⟩ : ∃ wa, wa = wr.alloc (.cells #[.int .i64 (S.G k).code, .int .i64 (S.G k).adv, .slice sp (S.G k).n sc] 66) := ⟨_, rfl⟩
              rw [← hwa] at Ba ⊢
              have Xb : wa.cell? ⟨wr.heap.size, 0, none⟩ = some (.int .i64 (nmG S k)) := by rw [hwa]; exact Xa
              have OA := Lib.hid (own_later ho.out Ba.out)
              have SA : wp.heap.size ≤ wa.heap.size := Nat.le_trans hb.out.size Ba.out.size
              clear hwa c0 c1 c2 Xa
              go_wp2_with (at_builtin; go_loud (refine wpList_app (w0 := wa) rfl (.tmp 53) (.tmp 56) 55 rfl wp.heap.size 3 i0 (.int .i64 0) 1 8 [.int .i64 (nmG S k)] Try.under55 hi hz0 hz1 hz2 rfl rfl (by decide) _ _ _ rfl OA.out (by first | rfl | (simp; rfl) | simp) (by simp [Value.oneCell']) ?c1 ?c2 SA ?_))
              case c1 => unfold maxLen; omega
              case c2 => omega
              intro g' cap' w5 own5 hb5
              have O5 := Lib.hid own5
              have B5 := Lib.hid (hb.out.trans ((Ba.out.mono hb.out.size).trans hb5))
              clear own5 hb5 Xb
              go_wp2_with fail
              exact ⟨⟨k + 1, by go_num, by omega, Lib.hid (by rw [flat_succ]; exact O5.out), B5⟩, by (first | (simp [intOf]; done) | (simp [intOf]; omega) | (simp only [intOf]; omega))⟩
            · obtain rfl : k = S.ng := by omega
              have kI : ¬ (S.ng : Int) < (S.ng : Int) := by omega
              obtain ⟨a3, q3, rfl, hn3⟩ := names_of ho.out
              have N3 := Lib.hid hn3
              have N1 := Lib.hid ((N1.out.later HO.out).later hb.out)
              have N2 := Lib.hid (N2.out.later hb.out)
              have Xw := XX.out.1
              go_wp2_with fail
              refine (tabulate_any a1 S.nr q1 (nmR S) wr nrb N1.out).mono ?_
              rintro e w2 ⟨t1, b1, rfl, hb2, ht1⟩
              obtain ⟨p1, m1, l1, rfl⟩ := ht1.slice
              have T1 := Lib.hid ht1
              have N2 := Lib.hid (N2.out.later hb2)
              have N3 := Lib.hid (N3.out.later hb2)
              have H2 := Lib.hid (bthen hbw.out hb2)
              clear hb2 ht1
              go_wp2_with fail
              refine (tabulate_any a2 S.np q2 (nmP S) w2 npb N2.out).mono ?_
              rintro e w3 ⟨t2, b2, rfl, hb3, ht2⟩
              obtain ⟨p2, m2, l2, rfl⟩ := ht2.slice
              have T2 := Lib.hid ht2
              have T1 := Lib.hid (T1.out.later hb3)
              have N3 := Lib.hid (N3.out.later hb3)
              have H3 := Lib.hid (bthen H2.out hb3)
              clear hb3 ht2
              go_wp2_with fail
              refine (tabulate_any a3 S.ng q3 (nmG S) w3 ngb N3.out).mono ?_
              rintro e w4 ⟨t3, b3, rfl, hb4, ht3⟩
              obtain ⟨p3, m3, l3, rfl⟩ := ht3.slice
              have T1 := Lib.hid ((T1.out.later hb4).low hbw.out.size)
              have T2 := Lib.hid ((T2.out.later hb4).low H2.out.size)
              have T3 := Lib.hid (ht3.low H3.out.size)
              have H4 := Lib.hid (bthen H3.out hb4)
              have X4 := Lib.hid (XX.out.later H4.out)
              have x17 := X4.out.2.2 17 _ rfl
              have x18 := X4.out.2.2 18 _ rfl
              have x19 := X4.out.2.2 19 _ rfl
              have x20 := X4.out.2.2 20 _ rfl
              have x21 := X4.out.2.2 21 _ rfl
              have x22 := X4.out.2.2 22 _ rfl
              have xf := X4.out.2.1
              have xz := X4.out.1
              clear hb4 ht3
              go_wp2_with fail
              have T1 := Lib.hid (T1.out.sets Xw (.slice p1 m1 l1) (.bool b1) (.slice p2 m2 l2) (.bool b2) (.slice p3 m3 l3) (.bool b3))
              have T2 := Lib.hid (T2.out.sets Xw (.slice p1 m1 l1) (.bool b1) (.slice p2 m2 l2) (.bool b2) (.slice p3 m3 l3) (.bool b3))
              have T3 := Lib.hid (T3.out.sets Xw (.slice p1 m1 l1) (.bool b1) (.slice p2 m2 l2) (.bool b2) (.slice p3 m3 l3) (.bool b3))
              have X5 := Lib.hid ((((((X4.out.put 17 (.slice p1 m1 l1) (by simp)).put 18 (.bool b1) (by simp)).put 19 (.slice p2 m2 l2) (by simp)).put 20 (.bool b2) (by simp)).put 21 (.slice p3 m3 l3) (by simp)).put 22 (.bool b3) (by simp))
              have F5 : Hid (FrmA w ((((((w4.setCell ⟨X, 17, none⟩ (.slice p1 m1 l1)).setCell ⟨X, 18, none⟩ (.bool b1)).setCell ⟨X, 19, none⟩ (.slice p2 m2 l2)).setCell ⟨X, 20, none⟩ (.bool b2)).setCell ⟨X, 21, none⟩ (.slice p3 m3 l3)).setCell ⟨X, 22, none⟩ (.bool b3)) X) := Lib.hid (FrmA.of_below H4.out).set.set.set.set.set.set
              obtain ⟨w5, hw5⟩ : ∃ w5, w5 = (((((w4.setCell ⟨X, 17, none⟩ (.slice p1 m1 l1)).setCell ⟨X, 18, none⟩ (.bool b1)).setCell ⟨X, 19, none⟩ (.slice p2 m2 l2)).setCell ⟨X, 20, none⟩ (.bool b2)).setCell ⟨X, 21, none⟩ (.slice p3 m3 l3)).setCell ⟨X, 22, none⟩ (.bool b3) := ⟨_, rfl⟩
              rw [← hw5] at T1 T2 T3 X5 F5 ⊢
              clear hw5 X4 x17 x18 x19 x20 x21 x22 xf xz
              refine (icheck_any S X hd (.slice rp S.nr rc) (.slice gp S.ng gc) (.slice pp S.np pk) (.slice p1 m1 l1) (.slice p2 m2 l2) (.slice p3 m3 l3) b1 b2 b3 0 1 0 0 w5 X5.out HH.out (KD.out w5 (Abv.of_frm F5.out (by omega))) OK.out).mono ?_
              rintro e w6 ⟨rfl, hb6⟩
              obtain ⟨wrg, hwrg⟩ : ∃ x, x = wrongB S (b1 || (b3 || b2)) := ⟨_, rfl⟩
              rw [← hwrg]
              have HW := Lib.hid hwrg
              have T1 := Lib.hid (T1.out.later hb6)
              have T2 := Lib.hid (T2.out.later hb6)
              have T3 := Lib.hid (T3.out.later hb6)
              have X6 := Lib.hid (X5.out.later hb6)
              have F6 := Lib.hid (F5.out.trans (FrmA.of_below hb6))
              have x23 := X6.out.2.2 23 _ rfl
              have xf := X6.out.2.1
              have xz := X6.out.1
              clear hwrg hb6 X5 F5
              go_wp2_with fail
              have X7 := Lib.hid (X6.out.put 23 (.int .i64 wrg) (by simp))
              refine (iadd_one ⟨X, 16, none⟩ _ (X7.out.2.2 16 _ rfl) (X7.out.2.1 16)).mono ?_
              rintro e w8 ⟨rfl, hw8⟩
              have X8 := Lib.hid (X7.out.put 16 (.int .i64 1) (by simp))
              have T1 := Lib.hid ((T1.out.far (i := 23) (.int .i64 wrg) Xw).far (i := 16) (.int .i64 1) Xw)
              have T2 := Lib.hid ((T2.out.far (i := 23) (.int .i64 wrg) Xw).far (i := 16) (.int .i64 1) Xw)
              have T3 := Lib.hid ((T3.out.far (i := 23) (.int .i64 wrg) Xw).far (i := 16) (.int .i64 1) Xw)
              have F8 := Lib.hid ((F6.out.set (k := 23) (u := .int .i64 wrg)).set (k := 16) (u := .int .i64 1))
              rw [← hw8] at X8 T1 T2 T3 F8
              clear hw8 X7 X6 F6 x23 xf xz
              rw [HW.out] at X8
              go_wp2_with fail
              exact bodyPost_end (results_none rfl _ _ _) rfl ⟨rfl, _, _, _, _, _, _, X8.out, T1.out, T2.out, T3.out, F8.out⟩
end Go.Proofs.Ytkhdielfnphheaa
