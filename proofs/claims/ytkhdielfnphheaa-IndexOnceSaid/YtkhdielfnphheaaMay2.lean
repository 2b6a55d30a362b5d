/- Contract of may: all definitions may be. -/
import Derived.Test.YtkhdielfnphheaaMay0
import Derived.Test.YtkhdielfnphheaaMay1
namespace Go.Proofs.Ytkhdielfnphheaa
open Go.RowKit

def allB (f : Nat → Bool) : Nat → Bool
  | 0 => true
  | k + 1 => allB f k && f k
def mayRm (S : Sc) (j : Nat) : Bool := mayP (S.R j 1) (S.R j 2) (S.R j 3) (S.R j 4) (S.R j 5) (S.R j 6)
def mayPc (S : Sc) (j : Nat) : Bool := mayR (S.P j).pw (S.P j).ph (S.P j).n && (decide ((S.P j).pw ≤ 32) && decide ((S.P j).ph ≤ 32))
def mayS (S : Sc) : Bool := allB (mayRm S) S.nr && (allB (fun j => mayG (S.G j)) S.ng && allB (mayPc S) S.np)
theorem allB_false {f : Nat → Bool} {n k : Nat} (hk : k < n) (h : f k = false) : allB f n = false := by
  induction n with
  | zero => omega
  | succ n ih =>
    unfold allB
    by_cases e : k = n
    · subst e; rw [h, Bool.and_false]
    · rw [ih (by omega), Bool.false_and]
theorem allB_true {f : Nat → Bool} {n k : Nat} (hk : k < n) (h : allB f n = true) : f k = true := by
  cases e : f k
  · rw [allB_false hk e] at h; cases h
  · rfl
theorem allB_succ (f : Nat → Bool) (k : Nat) : allB f (k + 1) = (allB f k && f k) := rfl
theorem allB_iff {f : Nat → Bool} {n : Nat} : allB f n = true ↔ ∀ k, k < n → f k = true := by
  constructor
  · exact fun h k hk => allB_true hk h
  · intro h
    induction n with
    | zero => rfl
    | succ n ih => rw [allB_succ, ih (fun k hk => h k (by omega)), h n (by omega)]; rfl
set_option maxRecDepth 100000 in
set_option maxHeartbeats 6400000 in
theorem imay_any (S : Sc) (X : Nat) (hd rm gl pc : Value) (cs : List Value) (w : World) (hX : BxAt w X (hd :: cs)) (h9 : (hd :: cs)[9]? = some rm) (h10 : (hd :: cs)[10]? = some gl) (h11 : (hd :: cs)[11]? = some pc) (hD : DataV S rm gl pc w) (ok : ScOk S) :
    Calls Try.prog 55 #[.pointer (some ⟨X, 0, none⟩)] w (RetPost (.bool (mayS S)) w) := by
  obtain ⟨rp, rc, rfl⟩ : ∃ a c, rm = .slice a S.nr c := hD.1.slice
  obtain ⟨gp, gc, rfl⟩ : ∃ a c, gl = .slice a S.ng c := by obtain ⟨_, h, _⟩ := hD.2.1; exact h.slice
  obtain ⟨pp, pk, rfl⟩ : ∃ a c, pc = .slice a S.np c := by obtain ⟨_, h, _⟩ := hD.2.2; exact h.slice
  have E : Hid (mayS S = (allB (mayRm S) S.nr && (allB (fun j => mayG (S.G j)) S.ng && allB (mayPc S) S.np))) := Lib.hid rfl
  obtain ⟨m, hm⟩ : ∃ m, m = mayS S := ⟨_, rfl⟩
  rw [← hm] at E ⊢
  have x9 := hX.2.2 9 _ h9
  have x10 := Lib.hid (hX.2.2 10 _ h10)
  have x11 := Lib.hid (hX.2.2 11 _ h11)
  have XX := Lib.hid hX.1
  have DD := Lib.hid hD
  have OK := Lib.hid ok
  have nrb : S.nr ≤ 4000000000000 := by have := ok.br; omega
  clear hm hX h9 h10 h11 hD ok
  go_enter Try.func55, Try.ntmps55
  go_wp2_with fail
  go_loopw [15] (fun x wr => ∃ k : Nat, x = .int .i64 k ∧ k ≤ S.nr ∧ Hid (allB (mayRm S) k = true) ∧ Hid (Below w.heap.size w wr)) (fun x _ => S.nr - (intOf x).toNat)
  case atStart => exact ⟨0, rfl, by omega, Lib.hid rfl, Lib.hid (Below.refl _ _)⟩
  case round =>
    obtain ⟨k, rfl, hk, hall, hb⟩ := hrel
    by_cases hlt : k < S.nr
    · obtain ⟨a, cap, he, hnn, hcell⟩ := (DD.out.1).later hb.out
      obtain ⟨g, off, rfl, hc3⟩ := hcell (by omega)
      obtain ⟨rfl, rfl⟩ : rp = some ⟨g, off, none⟩ ∧ rc = cap := by simpa using he
      have c0 : wr.cell? ⟨g, off + k * 15, none⟩ = some (.int .i64 (S.R k 0)) := hc3 k 0 hlt (by omega)
      have c1 : wr.cell? ⟨g, off + k * 15 + 1, none⟩ = some (.int .i64 (S.R k 1)) := hc3 k 1 hlt (by omega)
      have c2 : wr.cell? ⟨g, off + k * 15 + 2, none⟩ = some (.int .i64 (S.R k 2)) := hc3 k 2 hlt (by omega)
      have c3 : wr.cell? ⟨g, off + k * 15 + 3, none⟩ = some (.int .i64 (S.R k 3)) := hc3 k 3 hlt (by omega)
      have c4 : wr.cell? ⟨g, off + k * 15 + 4, none⟩ = some (.int .i64 (S.R k 4)) := hc3 k 4 hlt (by omega)
      have c5 : wr.cell? ⟨g, off + k * 15 + 5, none⟩ = some (.int .i64 (S.R k 5)) := hc3 k 5 hlt (by omega)
      have c6 : wr.cell? ⟨g, off + k * 15 + 6, none⟩ = some (.int .i64 (S.R k 6)) := hc3 k 6 hlt (by omega)
      have c7 : wr.cell? ⟨g, off + k * 15 + 7, none⟩ = some (.int .u8 (S.R k 7)) := hc3 k 7 hlt (by omega)
      have c8 : wr.cell? ⟨g, off + k * 15 + 8, none⟩ = some (.int .u8 (S.R k 8)) := hc3 k 8 hlt (by omega)
      have c9 : wr.cell? ⟨g, off + k * 15 + 9, none⟩ = some (.int .u8 (S.R k 9)) := hc3 k 9 hlt (by omega)
      have c10 : wr.cell? ⟨g, off + k * 15 + 10, none⟩ = some (.int .u8 (S.R k 10)) := hc3 k 10 hlt (by omega)
      have c11 : wr.cell? ⟨g, off + k * 15 + 11, none⟩ = some (.int .u8 (S.R k 11)) := hc3 k 11 hlt (by omega)
      have c12 : wr.cell? ⟨g, off + k * 15 + 12, none⟩ = some (.int .u8 (S.R k 12)) := hc3 k 12 hlt (by omega)
      have c13 : wr.cell? ⟨g, off + k * 15 + 13, none⟩ = some (.int .u8 (S.R k 13)) := hc3 k 13 hlt (by omega)
      have c14 : wr.cell? ⟨g, off + k * 15 + 14, none⟩ = some (.int .u8 (S.R k 14)) := hc3 k 14 hlt (by omega)
      have kI : (k : Int) < (S.nr : Int) := by omega
      have k0 : (0 : Int) ≤ (k : Int) := by omega
      clear hc3 hcell hnn he
      go_wp2_with fail
      have Ba := Lib.hid (below_alloc wr (.cells #[.int .i64 (S.R k 0), .int .i64 (S.R k 1), .int .i64 (S.R k 2), .int .i64 (S.R k 3), .int .i64 (S.R k 4), .int .i64 (S.R k 5), .int .i64 (S.R k 6), .int .u8 (S.R k 7), .int .u8 (S.R k 8), .int .u8 (S.R k 9), .int .u8 (S.R k 10), .int .u8 (S.R k 11), .int .u8 (S.R k 12), .int .u8 (S.R k 13), .int .u8 (S.R k 14)] 58))
      obtain ⟨wa, hwa⟩ : ∃ wa, wa = wr.alloc (.cells #[.int .i64 (S.R k 0), .int .i64 (S.R k 1), .int .i64 (S.R k 2), .int .i64 (S.R k 3), .int .i64 (S.R k 4), .int .i64 (S.R k 5), .int .i64 (S.R k 6), .int .u8 (S.R k 7), .int .u8 (S.R k 8), .int .u8 (S.R k 9), .int .u8 (S.R k 10), .int .u8 (S.R k 11), .int .u8 (S.R k 12), .int .u8 (S.R k 13), .int .u8 (S.R k 14)] 58) := ⟨_, rfl⟩
      rw [← hwa] at Ba ⊢
      clear hwa c0 c1 c2 c3 c4 c5 c6 c7 c8 c9 c10 c11 c12 c13 c14
      refine (paint_any _ _ _ _ _ _ _ _ _ _ _ _ _ _ _ _).mono ?_
      rintro e w2 ⟨rfl, hb2⟩
      have B2 := Lib.hid hb2
      clear hb2
      go_wp2_with fail
      refine (tmay_any _ _ _ _ _ _ _ _ _ _ _ _ _ _ _).mono ?_
      rintro e w3 ⟨rfl, hb3⟩
      have B3 := Lib.hid (hb.out.trans ((bthen Ba.out (bthen B2.out hb3)).mono hb.out.size))
      clear hb3 B2 Ba
      obtain ⟨q, hq⟩ : ∃ q, q = mayP (S.R k 1) (S.R k 2) (S.R k 3) (S.R k 4) (S.R k 5) (S.R k 6) := ⟨_, rfl⟩
      rw [← hq]
      have HQ : Hid (q = mayRm S k) := Lib.hid hq
      clear hq
      cases q
      · have e : Hid (m = false) := Lib.hid (by rw [E.out, allB_false hlt HQ.out.symm]; rfl)
        go_wp2_with fail
        go_ret
        exact ⟨by rw [e.out]; rfl, B3.out⟩
      · go_wp2_with fail
        exact ⟨⟨k + 1, by go_num, by omega, Lib.hid (by rw [allB_succ, hall.out, ← HQ.out]; rfl), B3⟩, by (first | (simp [intOf]; done) | (simp [intOf]; omega) | (simp only [intOf]; omega))⟩
    · obtain rfl : k = S.nr := by omega
      have kI : ¬ (S.nr : Int) < (S.nr : Int) := by omega
      have y10 := cell_later hb.out x10.out
      have E2 : Hid (m = (allB (fun j => mayG (S.G j)) S.ng && allB (mayPc S) S.np)) := Lib.hid (by rw [E.out, hall.out]; rfl)
      have ngb : S.ng ≤ 4000000000000 := by have := OK.out.bg; omega
      clear x9
      go_wp2_with fail
      clear kI E y10 hall
      as_aux_lemma =>
      go_loopw [30] (fun x wr => ∃ k : Nat, x = .int .i64 k ∧ k ≤ S.ng ∧ Hid (allB (fun j => mayG (S.G j)) k = true) ∧ Hid (Below w.heap.size w wr)) (fun x _ => S.ng - (intOf x).toNat)
      case atStart => exact ⟨0, rfl, by omega, Lib.hid rfl, hb⟩
      case round =>
        clear hb
        obtain ⟨k, rfl, hk, hall, hb⟩ := hrel
        by_cases hlt : k < S.ng
        · obtain ⟨_, ⟨sv, hrow, hst⟩, _⟩ := DD.out
          obtain ⟨a, cap, he, hnn, hcell⟩ := hrow.later hb.out
          obtain ⟨g, off, rfl, hc3⟩ := hcell (by omega)
          obtain ⟨rfl, rfl⟩ : gp = some ⟨g, off, none⟩ ∧ gc = cap := by simpa using he
          have c0 : wr.cell? ⟨g, off + k * 3, none⟩ = some (.int .i64 (S.G k).code) := hc3 k 0 hlt (by omega)
          have c1 : wr.cell? ⟨g, off + k * 3 + 1, none⟩ = some (.int .i64 (S.G k).adv) := hc3 k 1 hlt (by omega)
          have c2 : wr.cell? ⟨g, off + k * 3 + 2, none⟩ = some (sv k) := hc3 k 2 hlt (by omega)
          have ST := Lib.hid (((hst k hlt).later hb.out).sts (by have := OK.out.cg k hlt; omega))
          obtain ⟨sp, sc, hs⟩ := (hst k hlt).slice
          rw [hs] at c2 ST
          have kI : (k : Int) < (S.ng : Int) := by omega
          have k0 : (0 : Int) ≤ (k : Int) := by omega
          clear hc3 hcell hnn he hrow hst hs
          go_wp2_with fail
          have Ba := Lib.hid (below_alloc wr (.cells #[.int .i64 (S.G k).code, .int .i64 (S.G k).adv, .slice sp (S.G k).n sc] 66))
          obtain ⟨wa, hwa⟩ : ∃ wa, wa = wr.alloc (.cells #[.int .i64 (S.G k).code, .int .i64 (S.G k).adv, .slice sp (S.G k).n sc] 66) := ⟨_, rfl⟩
          rw [← hwa] at Ba ⊢
          clear hwa c0 c1 c2
          refine (may_any (S.G k) sp sc wa (ST.out.later Ba.out)).mono ?_
          rintro e w3 ⟨rfl, hb3⟩
          have B3 := Lib.hid (hb.out.trans ((bthen Ba.out hb3).mono hb.out.size))
          clear hb3 Ba
          obtain ⟨q, hq⟩ : ∃ q, q = mayG (S.G k) := ⟨_, rfl⟩
          rw [← hq]
          have HQ := Lib.hid hq
          clear hq
          cases q
          · have e : Hid (m = false) := Lib.hid (by rw [E2.out, allB_false hlt HQ.out.symm]; rfl)
            go_wp2_with fail
            go_ret
            exact ⟨by rw [e.out]; rfl, B3.out⟩
          · go_wp2_with fail
            exact ⟨⟨k + 1, by go_num, by omega, Lib.hid (by rw [allB_succ, hall.out, ← HQ.out]; rfl), B3⟩, by (first | (simp [intOf]; done) | (simp [intOf]; omega) | (simp only [intOf]; omega))⟩
        · obtain rfl : k = S.ng := by omega
          have kI : ¬ (S.ng : Int) < (S.ng : Int) := by omega
          have y11 := cell_later hb.out x11.out
          have E3 : Hid (m = allB (mayPc S) S.np) := Lib.hid (by rw [E2.out, hall.out]; rfl)
          have npb : S.np ≤ 4000000000000 := by have := OK.out.bp; omega
          go_wp2_with fail
          clear kI E2 y11 hall
          as_aux_lemma =>
          go_loopw [44] (fun x wr => ∃ k : Nat, x = .int .i64 k ∧ k ≤ S.np ∧ Hid (allB (mayPc S) k = true) ∧ Hid (Below w.heap.size w wr)) (fun x _ => S.np - (intOf x).toNat)
          case atStart => exact ⟨0, rfl, by omega, Lib.hid rfl, hb⟩
          case round =>
            clear hb
            obtain ⟨k, rfl, hk, hall, hb⟩ := hrel
            by_cases hlt : k < S.np
            · obtain ⟨_, _, sv, hrow, hst⟩ := DD.out
              obtain ⟨a, cap, he, hnn, hcell⟩ := hrow.later hb.out
              obtain ⟨g, off, rfl, hc3⟩ := hcell (by omega)
              obtain ⟨rfl, rfl⟩ : pp = some ⟨g, off, none⟩ ∧ pk = cap := by simpa using he
              have c0 : wr.cell? ⟨g, off + k * 4, none⟩ = some (.int .i64 (S.P k).id) := hc3 k 0 hlt (by omega)
              have c1 : wr.cell? ⟨g, off + k * 4 + 1, none⟩ = some (.int .i64 (S.P k).pw) := hc3 k 1 hlt (by omega)
              have c2 : wr.cell? ⟨g, off + k * 4 + 2, none⟩ = some (.int .i64 (S.P k).ph) := hc3 k 2 hlt (by omega)
              have c3 : wr.cell? ⟨g, off + k * 4 + 3, none⟩ = some (sv k) := hc3 k 3 hlt (by omega)
              obtain ⟨sp, sc, hs⟩ := (hst k hlt).slice
              rw [hs] at c3
              have kI : (k : Int) < (S.np : Int) := by omega
              have k0 : (0 : Int) ≤ (k : Int) := by omega
              have HP : Hid (mayPc S k = (mayR (S.P k).pw (S.P k).ph (S.P k).n && (decide ((S.P k).pw ≤ 32) && decide ((S.P k).ph ≤ 32)))) := Lib.hid rfl
              obtain ⟨P0, hP0⟩ : ∃ x, x = (S.P k).id := ⟨_, rfl⟩
              obtain ⟨P1, hP1⟩ : ∃ x, x = (S.P k).pw := ⟨_, rfl⟩
              obtain ⟨P2, hP2⟩ : ∃ x, x = (S.P k).ph := ⟨_, rfl⟩
              obtain ⟨P3, hP3⟩ : ∃ x, x = (S.P k).n := ⟨_, rfl⟩
              rw [← hP1, ← hP2, ← hP3] at HP
              rw [← hP0] at c0
              rw [← hP1] at c1
              rw [← hP2] at c2
              rw [← hP3] at c3
              clear hc3 hcell hnn he hrow hst hs hP0 hP1 hP2 hP3
              go_wp2_with fail
              have Ba := Lib.hid (below_alloc wr (.cells #[.int .i64 P0, .int .i64 P1, .int .i64 P2, .slice sp P3 sc] 101))
              have Xa := Lib.hid (BxAt.new wr [.int .i64 P0, .int .i64 P1, .int .i64 P2, .slice sp P3 sc] 101)
              obtain ⟨wa, hwa⟩ : ∃ wa, wa = wr.alloc (.cells #[.int .i64 P0, .int .i64 P1, .int .i64 P2, .slice sp P3 sc] 101) := ⟨_, rfl⟩
              rw [← hwa] at Ba Xa ⊢
              clear hwa c0 c1 c2 c3
              refine (pmay_any P1 P2 sp P3 sc wa).mono ?_
              rintro e w3 ⟨rfl, hb3⟩
              have X3 := Xa.out.later hb3
              have B3 := Lib.hid (hb.out.trans ((bthen Ba.out hb3).mono hb.out.size))
              have p1 := X3.2.2 1 _ rfl
              have p2 := X3.2.2 2 _ rfl
              obtain ⟨q, hq⟩ : ∃ q, q = mayR P1 P2 P3 := ⟨_, rfl⟩
              rw [← hq] at HP ⊢
              clear hb3 Ba Xa X3 hq
              cases q
              · have e : Hid (m = false) := Lib.hid (by rw [E3.out, allB_false hlt HP.out])
                go_wp2_with fail
                go_ret
                exact ⟨by rw [e.out]; rfl, B3.out⟩
              · by_cases w1 : P1 ≤ 32
                · by_cases w2 : P2 ≤ 32
                  · have HQ : Hid (mayPc S k = true) := Lib.hid (by rw [HP.out]; simp [w1, w2])
                    go_wp2_with fail
                    exact ⟨⟨k + 1, by go_num, by omega, Lib.hid (by rw [allB_succ, hall.out, HQ.out]; rfl), B3⟩, by (first | (simp [intOf]; done) | (simp [intOf]; omega) | (simp only [intOf]; omega))⟩
                  · have e : Hid (m = false) := Lib.hid (by rw [E3.out, allB_false hlt (by rw [HP.out]; simp [w2])])
                    go_wp2_with fail
                    go_ret
                    exact ⟨by rw [e.out]; rfl, B3.out⟩
                · have e : Hid (m = false) := Lib.hid (by rw [E3.out, allB_false hlt (by rw [HP.out]; simp [w1])])
                  go_wp2_with fail
                  go_ret
                  exact ⟨by rw [e.out]; rfl, B3.out⟩
            · obtain rfl : k = S.np := by omega
              have kI : ¬ (S.np : Int) < (S.np : Int) := by omega
              have e : Hid (m = true) := Lib.hid (by rw [E3.out, hall.out])
              go_wp2_with fail
              go_ret
              exact ⟨by rw [e.out]; rfl, hb.out⟩
end Go.Proofs.Ytkhdielfnphheaa
