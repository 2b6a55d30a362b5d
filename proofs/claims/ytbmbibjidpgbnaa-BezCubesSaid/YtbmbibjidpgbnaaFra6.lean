/- Contracts of the reference's fractions: Floor. -/
import Derived.Test.YtbmbibjidpgbnaaFra5
namespace Go.Proofs.Ytbmbibjidpgbnaa
open Go.RowKit

def HSt (W : World) (A : Nat) (b : Bool) (s d : Value) (q : Rat) : Prop :=
  BxAt W A [.bool b, s, d] ∧ BxAt W (A + 1) [.bool false, .slice none 0 0] ∧ Frp W b s d q
theorem HSt.later {W W1 : World} {A : Nat} {b : Bool} {s d : Value} {q : Rat} (h : HSt W A b s d q) (hb : Below W.heap.size W W1) : HSt W1 A b s d q := ⟨h.1.later hb, h.2.1.later hb, h.2.2.later hb⟩
theorem HSt.drew {W : World} {A : Nat} {b : Bool} {s d : Value} {q : Rat} (h : HSt W A b s d q) : HSt W.drew A b s d q := h
theorem HSt.once {W : World} {A : Nat} {b : Bool} {p1 p2 : Option Addr} {n1 n2 c1 c2 : Nat} {q : Rat} (h : HSt W A b (.slice p1 n1 c1) (.slice p2 n2 c2) q) : HSt (set3 W A (.bool b) (.slice p1 n1 c1) (.slice p2 n2 c2)) A b (.slice p1 n1 c1) (.slice p2 n2 c2) q :=
  ⟨h.1.put3 _ _ _, h.2.1.far3 _ _ _ (by omega), h.2.2.store3 _ _ _ h.1⟩
theorem HSt.cells {W : World} {A : Nat} {b : Bool} {s d : Value} {q : Rat} (h : HSt W A b s d q) : W.cell? ⟨A, 0, none⟩ = some (.bool b) ∧ W.cell? ⟨A, 1, none⟩ = some s ∧ W.cell? ⟨A, 2, none⟩ = some d :=
  ⟨h.1.2.2 0 _ rfl, h.1.2.2 1 _ rfl, h.1.2.2 2 _ rfl⟩
abbrev set2 (w : World) (g : Nat) (x y : Value) : World := (w.setCell ⟨g, 0, none⟩ x).setCell ⟨g, 1, none⟩ y
/-- a whole number in a block of its own -/
abbrev EndOk (A : Nat) (wc W : World) (g : Nat) (b : Bool) (p : Option Addr) (n c : Nat) (z : Int) : Prop := A < g ∧ BxAt W g [.bool b, .slice p n c] ∧ Whp W b (.slice p n c) z ∧ Below wc.heap.size wc W
section
variable {A : Nat} {wc v : World} {b b' : Bool} {p p' : Option Addr} {n n' c c' : Nat} {z : Int}
theorem end1 (k : Below wc.heap.size wc v) (h : Whp v b (.slice p n c) z) (hA : A < v.heap.size) : EndOk A wc ((v.alloc (.cells #[.bool b, .slice p n c] 104)).alloc (.cells #[.bool b', .slice p' n' c'] 104)) v.heap.size b p n c z :=
  ⟨hA, bx_a v _ _ _, h.later (bel2 _ _ _), bthen k (bel2 _ _ _)⟩
theorem end2 (k : Below wc.heap.size wc v) (h : Whp v b (.slice p n c) z) (hA : A < v.heap.size) : EndOk A wc ((v.alloc (.cells #[.bool b', .slice p' n' c'] 104)).alloc (.cells #[.bool b, .slice p n c] 104)) (v.heap.size + 1) b p n c z :=
  ⟨by omega, bx_b v _ _ _, h.later (bel2 _ _ _), bthen k (bel2 _ _ _)⟩
theorem end3 {g : Nat} (X : BxAt v g [.bool false, .slice none 0 0]) (k : Below wc.heap.size wc v) (h : Whp v b (.slice p n c) z) (hA : A < g) (hg : wc.heap.size ≤ g) : EndOk A wc ((set2 v g (.bool b) (.slice p n c)).alloc (.cells #[.bool b', .slice p' n' c'] 104)) g b p n c z :=
  ⟨hA, (X.put2 _ _).later (below_alloc _ _), (h.store2 _ _ X).later (below_alloc _ _), (below_store2 k hg _ _).alloc (by simp; exact k.size) _⟩
theorem end4 {g g' : Nat} (X : BxAt v g [.bool false, .slice none 0 0]) (Y : BxAt v g' [.bool false, .slice none 0 0]) (k : Below wc.heap.size wc v) (h : Whp v b (.slice p n c) z) (hA : A < g) (hg : wc.heap.size ≤ g) (hg' : wc.heap.size ≤ g') (hne : g ≠ g') :
    EndOk A wc (set2 (set2 v g (.bool b) (.slice p n c)) g' (.bool b') (.slice p' n' c')) g b p n c z :=
  ⟨hA, (X.put2 _ _).far2 _ _ (Ne.symm hne), (h.store2 _ _ X).store2 _ _ (Y.far2 _ _ hne), below_store2 (below_store2 k hg _ _) hg' _ _⟩
theorem end5 {g : Nat} (X : BxAt v g [.bool false, .slice none 0 0]) (k : Below wc.heap.size wc v) (h : Whp v b (.slice p n c) z) (hA : A < v.heap.size) (hg : wc.heap.size ≤ g) : EndOk A wc ((set2 v g (.bool b') (.slice p' n' c')).alloc (.cells #[.bool b, .slice p n c] 104)) v.heap.size b p n c z := by
  have hs : (set2 v g (.bool b') (.slice p' n' c')).heap.size = v.heap.size := by simp
  refine ⟨hA, ?_, (h.store2 _ _ X).later (below_alloc _ _), (below_store2 k hg _ _).alloc (by simp; exact k.size) _⟩
  have := BxAt.new (set2 v g (.bool b') (.slice p' n' c')) [.bool b, .slice p n c] 104
  rw [hs] at this
  exact this
end
set_option maxRecDepth 100000 in
set_option maxHeartbeats 6400000 in
theorem FFloor_any (b : Bool) (s d : Value) (q : Rat) (w : World) (hn : Small (q.num.natAbs + q.den)) (h : Frp w b s d q) :
    Calls Try.prog 83 #[.agg #[.bool b, s, d]] w (WhPost q.floor w) := by
  obtain ⟨⟨p1, n1, c1, rfl⟩, p2, n2, c2, rfl⟩ := h.forms
  have SN : Hid (Small q.num.natAbs) := Lib.hid (hn.le (by omega))
  have SD : Hid (Small q.den) := Lib.hid (hn.le (by omega))
  have SND : Hid (Small (q.num.natAbs + (q.den : Int).natAbs)) := Lib.hid (by simpa using hn)
  have DP := Lib.hid q.den_pos
  have DPI : Hid (0 < (q.den : Int)) := Lib.hid (by have := q.den_pos; omega)
  have FD := Lib.hid (Rat.floor_def q).symm
  obtain ⟨w0, hw0⟩ : ∃ w0, (w.alloc (.cells #[.bool b, .slice p1 n1 c1, .slice p2 n2 c2] 106)).alloc (.cells #[.bool false, .slice none 0 0] 104) = w0 := ⟨_, rfl⟩
  have G0 : Hid (HSt w0 w.heap.size b (.slice p1 n1 c1) (.slice p2 n2 c2) q) := Lib.hid (by rw [← hw0]; exact ⟨bx_a w _ _ _, bx_b w _ _ _, h.later (bel2 _ _ _)⟩)
  have B0 : Hid (Below w.heap.size w w0) := Lib.hid (by rw [← hw0]; exact bel2 _ _ _)
  clear h hn
  have a0 := G0.out.1.2.2 0 _ rfl
  have a1 := G0.out.1.2.2 1 _ rfl
  have a2 := G0.out.1.2.2 2 _ rfl
  go_enter Try.func83, Try.ntmps83
  go_wp2_with fail
  clear hw0 a0 a1 a2
  refine (worth_any b _ _ q.den _ SD.out DP.out (isSl _ _ _) G0.out.2.2.2).mono ?_
  rintro e w1 ⟨rfl, hb1⟩
  have G1 := Lib.hid (G0.out.later hb1)
  have B1 := Lib.hid (bthen B0.out hb1)
  clear hb1
  have a0 := G1.out.1.2.2 0 _ rfl
  have a1 := G1.out.1.2.2 1 _ rfl
  have a2 := G1.out.1.2.2 2 _ rfl
  have af := G1.out.1.2.1
  go_wp2_with fail
  obtain ⟨wc, hwc⟩ : ∃ wc, wc = ((w1.setCell ⟨w.heap.size, 0, none⟩ (.bool b)).setCell ⟨w.heap.size, 1, none⟩ (.slice p1 n1 c1)).setCell ⟨w.heap.size, 2, none⟩ (.slice p2 n2 c2) := ⟨_, rfl⟩
  rw [← hwc]
  have G2 : Hid (HSt wc w.heap.size b (.slice p1 n1 c1) (.slice p2 n2 c2) q) := Lib.hid (by rw [hwc]; exact G1.out.once)
  have B2 : Hid (Below w.heap.size w wc) := Lib.hid (by rw [hwc]; exact below_store3 B1.out (Nat.le_refl _) _ _ _)
  clear hwc a0 a1 a2 af G1 B1 G0 B0
  have N1 : Hid (Whp wc b (.slice p1 n1 c1) q.num) := Lib.hid G2.out.2.2.1
  have D1 : Hid (Nt wc (.slice p2 n2 c2) q.den) := Lib.hid G2.out.2.2.2
  have zc : w.heap.size + 1 < wc.heap.size := G2.out.2.1.1
  have F2 := G2.out
  have k : Below wc.heap.size wc wc := Below.refl _ _
  go_cut [3] (fun s3 wx => ∃ g b6 p6 n6 c6, s3 = .pointer (some ⟨g, 0, none⟩) ∧ w.heap.size + 1 < g ∧ BxAt wx g [.bool b6, .slice p6 n6 c6] ∧ Whp wx b6 (.slice p6 n6 c6) q.floor ∧ Below wc.heap.size wc wx)
  case first =>
    go_region_held3 (fun w' => w'.cell? ⟨w.heap.size, 0, none⟩ = some (.bool b) ∧ w'.cell? ⟨w.heap.size, 1, none⟩ = some (.slice p1 n1 c1) ∧ w'.cell? ⟨w.heap.size, 2, none⟩ = some (.slice p2 n2 c2))
      (first | with_reducible exact F2.cells | with_reducible exact F2.drew.cells | with_reducible exact (F2.later (below_alloc _ _)).cells | with_reducible exact (F2.later (bel2 _ _ _)).cells | with_reducible exact (F2.later (below_alloc _ _)).drew.cells | with_reducible exact (F2.later (bel2 _ _ _)).drew.cells | (refine ⟨?_, ?_, ?_⟩ <;> (repeat (first | with_reducible refine cell_alloc _ ?_ | with_reducible refine cell2_far ?_ (by omega))) <;> (first | with_reducible exact F2.cells.1 | with_reducible exact F2.cells.2.1 | with_reducible exact F2.cells.2.2)))
      (first
        | (go_at_call 79; (with_reducible refine (up_any b _ _ q.den _ D1.out.drew).mono ?_); rintro e v1 ⟨rfl, hb⟩; have k : Below wc.heap.size wc v1 := bel_drew hb; have F2 := G2.out.later k; have z1 := k.size)
        | (go_at_call 79; (with_reducible refine (up_any b _ _ q.den _ (D1.out.later (below_alloc _ _)).drew).mono ?_); rintro e v1 ⟨rfl, hb⟩; have k : Below wc.heap.size wc v1 := bthen (below_alloc _ _) (bel_drew hb); have F2 := G2.out.later k; have z1 := k.size; have N := (BxAt.new wc [.bool false, .slice none 0 0] 104).later (bel_drew hb); have nz := N.1; have nn1 := Nat.ne_of_lt N.1; have nn2 := Nat.ne_of_gt N.1)
        | (go_at_call 79; (with_reducible refine (up_any b _ _ q.den _ (D1.out.later (bel2 _ _ _)).drew).mono ?_); rintro e v1 ⟨rfl, hb⟩; have k : Below wc.heap.size wc v1 := bthen (bel2 _ _ _) (bel_drew hb); have F2 := G2.out.later k; have z1 := k.size; have N := (bx_a wc [.bool false, .slice none 0 0] 104 (.cells #[.bool false, .slice none 0 0] 104)).later (bel_drew hb); have N' := (bx_b wc [.bool false, .slice none 0 0] 104 (.cells #[.bool false, .slice none 0 0] 104)).later (bel_drew hb); have n5 := N.1; have n6 := N'.1)
        | (go_at_call 96; (with_reducible refine (WDiv_any b false _ _ q.num (q.den : Int) _ SN.out DPI.out SND.out (N1.out.later k) (whp_nat (D1.out.later k))).mono ?_); rintro e v2 ⟨⟨bz, sz, bq, pq, nq, mq, rfl, P5⟩, hb⟩; obtain ⟨pz, nz, cz, rfl⟩ := P5.form; have k2 := bthen k hb; have F2 := G2.out.later k2; have z2 := hb.size; (first | (have M := N.later hb; have m0 := M.2.2 0 _ rfl; have m1 := M.2.2 1 _ rfl; have mf := M.2.1; have mz := M.1; have mn := World.new_ne v2 _ m0) | skip); (first | (have M' := N'.later hb; have m0' := M'.2.2 0 _ rfl; have m1' := M'.2.2 1 _ rfl; have mf' := M'.2.1; have mz' := M'.1; have mn' := World.new_ne v2 _ m0') | skip))
        | (go_at_call 96; (with_reducible refine (WDiv_any b false _ _ q.num (q.den : Int) _ SN.out DPI.out SND.out ((N1.out.later k).later (below_alloc _ _)) (whp_nat ((D1.out.later k).later (below_alloc _ _)))).mono ?_); rintro e v2 ⟨⟨bz, sz, bq, pq, nq, mq, rfl, P5⟩, hb⟩; obtain ⟨pz, nz, cz, rfl⟩ := P5.form; have k2 := bthen k (bthen (below_alloc _ _) hb); have F2 := G2.out.later k2; have z2 := (bthen (below_alloc _ _) hb).size; have L := (BxAt.new v1 [.bool false, .slice none 0 0] 104).later hb; have l0 := L.2.2 0 _ rfl; have l1 := L.2.2 1 _ rfl; have lf := L.2.1; have lz := L.1; have ln := World.new_ne v2 _ l0; (first | (have M := N.later (bthen (below_alloc _ _) hb); have m0 := M.2.2 0 _ rfl; have m1 := M.2.2 1 _ rfl; have mf := M.2.1; have mz := M.1; have mn := World.new_ne v2 _ m0) | skip))
        | (go_at_call 96; (with_reducible refine (WDiv_any b false _ _ q.num (q.den : Int) _ SN.out DPI.out SND.out ((N1.out.later k).later (bel2 _ _ _)) (whp_nat ((D1.out.later k).later (bel2 _ _ _)))).mono ?_); rintro e v2 ⟨⟨bz, sz, bq, pq, nq, mq, rfl, P5⟩, hb⟩; obtain ⟨pz, nz, cz, rfl⟩ := P5.form; have k2 := bthen k (bthen (bel2 _ _ _) hb); have F2 := G2.out.later k2; have z2 := (bthen (bel2 _ _ _) hb).size; have L := (bx_a v1 [.bool false, .slice none 0 0] 104 (.cells #[.bool false, .slice none 0 0] 104)).later hb; have l0 := L.2.2 0 _ rfl; have l1 := L.2.2 1 _ rfl; have lf := L.2.1; have lz := L.1; have ln := World.new_ne v2 _ l0; have L' := (bx_b v1 [.bool false, .slice none 0 0] 104 (.cells #[.bool false, .slice none 0 0] 104)).later hb; have l0' := L'.2.2 0 _ rfl; have l1' := L'.2.2 1 _ rfl; have lf' := L'.2.1; have lz' := L'.1; have ln' := World.new_ne v2 _ l0'))
    all_goals go_wp2_with fail
    all_goals go_meet
    all_goals rw [FD.out] at P5
    · with_reducible exact ⟨_, _, _, _, _, rfl, end1 k2 P5 (by omega)⟩
    · with_reducible exact ⟨_, _, _, _, _, rfl, end2 k2 P5 (by omega)⟩
    · with_reducible exact ⟨_, _, _, _, _, rfl, end3 L k2 P5 (by omega) (by omega)⟩
    · with_reducible exact ⟨_, _, _, _, _, rfl, end4 L L' k2 P5 (by omega) (by omega) (by omega) (by omega)⟩
    · with_reducible exact ⟨_, _, _, _, _, rfl, end5 L k2 P5 (by omega) (by omega)⟩
    · with_reducible exact ⟨_, _, _, _, _, rfl, end4 L' L k2 P5 (by omega) (by omega) (by omega) (by omega)⟩
    · with_reducible exact ⟨_, _, _, _, _, rfl, end3 M k2 P5 (by omega) (by omega)⟩
    · with_reducible exact ⟨_, _, _, _, _, rfl, end4 M L k2 P5 (by omega) (by omega) (by omega) (by omega)⟩
    · with_reducible exact ⟨_, _, _, _, _, rfl, end4 M M' k2 P5 (by omega) (by omega) (by omega) (by omega)⟩
    · with_reducible exact ⟨_, _, _, _, _, rfl, end5 M k2 P5 (by omega) (by omega)⟩
    · with_reducible exact ⟨_, _, _, _, _, rfl, end4 L M k2 P5 (by omega) (by omega) (by omega) (by omega)⟩
    · with_reducible exact ⟨_, _, _, _, _, rfl, end4 M' M k2 P5 (by omega) (by omega) (by omega) (by omega)⟩
  case rest =>
    obtain ⟨g, b6, p6, n6, c6, rfl, hg, X6, P6, k6⟩ := hcut
    have R6 := (G2.out.later k6).2.1
    have X := Lib.hid X6
    have P := Lib.hid P6
    have R := Lib.hid R6
    have B6 := Lib.hid (bthen B2.out k6)
    have x0 := X6.2.2 0 _ rfl
    have x1 := X6.2.2 1 _ rfl
    have r0 := R6.2.2 0 _ rfl
    have r1 := R6.2.2 1 _ rfl
    have rf := R6.2.1
    clear X6 P6 R6 k6 k F2
    go_wp2_with fail
    refine bodyPost_ret (v := .agg #[.bool b6, .slice p6 n6 c6]) ?_ rfl ⟨⟨_, _, rfl, P.out.store2 _ _ R.out⟩, below_store2 B6.out (by omega) _ _⟩
    simp [results, Try.results83, go_sem, r0, r1]
end Go.Proofs.Ytbmbibjidpgbnaa
