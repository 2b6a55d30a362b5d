/- The law BezStays. -/
import Derived.Test.YtbmbibjidpgbnaaBez5
namespace Go.Proofs.Ytbmbibjidpgbnaa
open Go.RowKit
open Go.BigFrame

theorem near_in {n b lo hi : Int} (hb : 0 < b) (h1 : lo * b ≤ n) (h2 : n ≤ hi * b) : lo ≤ nearI n b ∧ nearI n b ≤ hi := by
  unfold nearI
  constructor
  · rw [Int.le_ediv_iff_mul_le (by omega)]
    have : lo * (2 * b) = 2 * (lo * b) := by rw [Int.mul_left_comm]
    omega
  · have h : (2 * n + b) / (2 * b) < hi + 1 := by
      rw [Int.ediv_lt_iff_lt_mul (by omega)]
      have : (hi + 1) * (2 * b) = 2 * (hi * b) + 2 * b := by rw [Int.add_mul, Int.one_mul, Int.mul_left_comm]
      omega
    omega
theorem sumW_in {W X : Nat → Int} {lo hi : Int} (i : Nat) (hW : ∀ j, j < i → 0 ≤ W j) (hX : ∀ j, j < i → lo ≤ X j ∧ X j ≤ hi) : lo * sumW W (fun _ => 1) i ≤ sumW W X i ∧ sumW W X i ≤ hi * sumW W (fun _ => 1) i := by
  induction i with
  | zero => simp [sumW]
  | succ i ih =>
    have h := ih (fun j hj => hW j (by omega)) (fun j hj => hX j (by omega))
    have a := Int.mul_le_mul_of_nonneg_left (hX i (by omega)).1 (hW i (by omega))
    have b := Int.mul_le_mul_of_nonneg_left (hX i (by omega)).2 (hW i (by omega))
    unfold sumW
    rw [Int.mul_add, Int.mul_add, Int.mul_one, Int.mul_comm lo (W i), Int.mul_comm hi (W i)]
    omega
theorem wt_nn (m k n j : Nat) (hk : k ≤ n) : 0 ≤ wt m k n j := by
  obtain ⟨l, hl⟩ : ∃ l : Nat, (l : Int) = (n : Int) - k := ⟨n - k, by omega⟩
  unfold wt
  rw [← hl]
  repeat' split
  all_goals first | omega | (exact_mod_cast Nat.zero_le _)
theorem wt_sum (m k n : Nat) (hm : m = 3 ∨ m = 4) : sumW (wt m k n) (fun _ => 1) m = byI m n := by
  rcases hm with rfl | rfl
  · simp [sumW, wt, byI]
    grind
  · simp [sumW, wt, byI]
    grind
theorem part_in {X : Nat → Int} {lo hi : Int} (m n k : Nat) (hm : m = 3 ∨ m = 4) (h1 : 1 ≤ n) (h2 : n ≤ 32) (hk : k ≤ n) (hX : ∀ j, j < m → lo ≤ X j ∧ X j ≤ hi) : lo ≤ partN X m n k ∧ partN X m n k ≤ hi := by
  have h := sumW_in (W := wt m k n) m (fun j _ => wt_nn m k n j hk) hX
  rw [wt_sum m k n hm] at h
  exact near_in (byI_le m n h1 h2).1 h.1 h.2
theorem part_end (X : Nat → Int) (m n : Nat) (hm : m = 3 ∨ m = 4) (h1 : 1 ≤ n) (h2 : n ≤ 32) : partN X m n n = X (m - 1) := by
  have hs : sumW (wt m n n) X m = X (m - 1) * byI m n := by
    rcases hm with rfl | rfl
    · simp [sumW, wt, byI, Int.mul_comm]
    · simp [sumW, wt, byI, Int.mul_comm]
  have h := near_in (n := sumW (wt m n n) X m) (lo := X (m - 1)) (hi := X (m - 1)) (byI_le m n h1 h2).1 (by omega) (by omega)
  unfold partN
  omega
theorem piecesN_of {X Y : Nat → Int} {m : Nat} (h : fitsTo X Y m = true) : 1 ≤ piecesN X Y m ∧ piecesN X Y m ≤ 32 := by
  unfold piecesN; rw [if_pos h]; exact pc_le _
theorem fits_of_pieces {X Y : Nat → Int} {m : Nat} (h : piecesN X Y m = 0) : fitsTo X Y m = false := by
  cases e : fitsTo X Y m
  · rfl
  · have := piecesN_of e; omega
theorem fits3 {X Y : Nat → Int} (h : fitsTo X Y 4 = true) : fitsTo X Y 3 = true := by
  unfold fitsTo at h
  rw [Bool.and_eq_true] at h
  exact h.1

theorem box8 (w : World) (l : Nat → Int) : ∀ j, j < 8 → (w.alloc (.cells #[.int .i64 (l 0), .int .i64 (l 1), .int .i64 (l 2), .int .i64 (l 3), .int .i64 (l 4), .int .i64 (l 5), .int .i64 (l 6), .int .i64 (l 7)] 73)).cell? ⟨w.heap.size, j, none⟩ = some (.int .i64 (l j)) := by
  intro j hj
  have h : j = 0 ∨ j = 1 ∨ j = 2 ∨ j = 3 ∨ j = 4 ∨ j = 5 ∨ j = 6 ∨ j = 7 := by omega
  rcases h with rfl | rfl | rfl | rfl | rfl | rfl | rfl | rfl <;> exact (cell_new_at rfl).trans rfl
def mn (a b : Int) : Int := if b < a then b else a
def mx (a b : Int) : Int := if b > a then b else a
theorem run_min4 {P : Program} {w : World} (ts : Array TypeId) (t : TypeId) (k : IntKind) (x y z u : Int) :
    (Builtin.min_ ts t #[.int k x, .int k y, .int k z, .int k u]).run P w = .ok (.int k (mn (mn (mn x y) z) u)) w := by
  simp [Builtin.min_, Builtin.min2, mn]
  try rfl
theorem run_max4 {P : Program} {w : World} (ts : Array TypeId) (t : TypeId) (k : IntKind) (x y z u : Int) :
    (Builtin.max_ ts t #[.int k x, .int k y, .int k z, .int k u]).run P w = .ok (.int k (mx (mx (mx x y) z) u)) w := by
  simp [Builtin.max_, Builtin.max2, mx]
theorem mn4 (x y z u : Int) : mn (mn (mn x y) z) u ≤ x ∧ mn (mn (mn x y) z) u ≤ y ∧ mn (mn (mn x y) z) u ≤ z ∧ mn (mn (mn x y) z) u ≤ u := by
  unfold mn; repeat' split
  all_goals omega
theorem mx4 (x y z u : Int) : x ≤ mx (mx (mx x y) z) u ∧ y ≤ mx (mx (mx x y) z) u ∧ z ≤ mx (mx (mx x y) z) u ∧ u ≤ mx (mx (mx x y) z) u := by
  unfold mx; repeat' split
  all_goals omega
def StaysPost (w : World) (e : Ending) (w' : World) : Prop := e = .returned (.bool true) ∧ Below w.heap.size w w'
set_option maxRecDepth 100000 in
set_option maxHeartbeats 4000000 in
theorem stays_any (l : Nat → Int) (w : World) : Calls Try.prog 11 #[.agg #[.int .i64 (l 0), .int .i64 (l 1), .int .i64 (l 2), .int .i64 (l 3), .int .i64 (l 4), .int .i64 (l 5), .int .i64 (l 6), .int .i64 (l 7)]] w (StaysPost w) := by
  go_enter Try.func11, Try.ntmps11
  go_wp2_with fail
  refine (cube_any l _).mono ?_
  rintro e w1 ⟨hb, ⟨hz, rfl⟩ | ⟨hf, v, rfl, hr⟩⟩
  · have hf := fits_of_pieces hz
    have hb1 : Below w.heap.size w w1 := ((Below.refl _ w).alloc (Nat.le_refl _) _).trans (hb.mono (by simp))
    have bx : ∀ j, j < 8 → w1.cell? ⟨w.heap.size, j, none⟩ = some (.int .i64 (l j)) := fun j hj => cell_later hb (box8 w l j hj)
    have HB := Lib.hid hb1
    have BX := Lib.hid bx
    have HF := Lib.hid hf
    clear hb hb1 hz hf bx
    have c0 := BX.out 0 (by omega)
    have c1 := BX.out 1 (by omega)
    have c2 := BX.out 2 (by omega)
    have c3 := BX.out 3 (by omega)
    have c4 := BX.out 4 (by omega)
    have c5 := BX.out 5 (by omega)
    have c6 := BX.out 6 (by omega)
    have c7 := BX.out 7 (by omega)
    go_wp2_with fail
    refine (quad_any l w1).mono ?_
    rintro e w2 ⟨hb2, hq⟩
    clear c0 c1 c2 c3 c4 c5 c6 c7
    have B2 := Lib.hid hb2
    clear hb2
    rcases hq with ⟨_, rfl⟩ | ⟨_, v, rfl, _⟩
    · go_wp2_with fail
      refine (lives11 w2).mono ?_
      rintro e w3 ⟨rfl, hb3⟩
      have B3 := Lib.hid hb3
      clear hb3
      go_wp2_with fail
      go_ret
      exact ⟨rfl, (HB.out.trans (B2.out.mono HB.out.size)).trans (B3.out.mono (Nat.le_trans HB.out.size B2.out.size))⟩
    · go_wp2_with fail
      refine (lives11 w2).mono ?_
      rintro e w3 ⟨rfl, hb3⟩
      have B3 := Lib.hid hb3
      clear hb3
      go_wp2_with fail
      go_ret
      exact ⟨rfl, (HB.out.trans (B2.out.mono HB.out.size)).trans (B3.out.mono (Nat.le_trans HB.out.size B2.out.size))⟩
  · obtain ⟨k1, k2⟩ := piecesN_of hf
    have hb1 : Below w.heap.size w w1 := ((Below.refl _ w).alloc (Nat.le_refl _) _).trans (hb.mono (by simp))
    have bx : ∀ j, j < 8 → w1.cell? ⟨w.heap.size, j, none⟩ = some (.int .i64 (l j)) := fun j hj => cell_later hb (box8 w l j hj)
    have HB := Lib.hid hb1
    have BX := Lib.hid bx
    have HF := Lib.hid hf
    have HR := Lib.hid hr
    clear hb hb1 hf bx hr
    have c0 := BX.out 0 (by omega)
    have c1 := BX.out 1 (by omega)
    have c2 := BX.out 2 (by omega)
    have c3 := BX.out 3 (by omega)
    have c4 := BX.out 4 (by omega)
    have c5 := BX.out 5 (by omega)
    have c6 := BX.out 6 (by omega)
    have c7 := BX.out 7 (by omega)
    go_wp2_with fail
    refine (quad_any l w1).mono ?_
    rintro e w2 ⟨hb2, hq⟩
    clear c0 c1 c2 c3 c4 c5 c6 c7
    obtain ⟨hf2, v2, rfl, hr2⟩ : fitsTo (quadX l) (quadY l) 3 = true ∧ ∃ v, e = .returned (.tuple #[v, .int .i64 0]) ∧ RdP w2 v (piecesN (quadX l) (quadY l) 3) (fun j => partN (quadX l) 3 (piecesN (quadX l) (quadY l) 3) (j + 1)) (fun j => partN (quadY l) 3 (piecesN (quadX l) (quadY l) 3) (j + 1)) := by
      rcases hq with ⟨hz, _⟩ | h
      · have h3 := fits3 HF.out
        have h4 := fits_of_pieces hz
        rw [h3] at h4; cases h4
      · exact h
    obtain ⟨j1, j2⟩ := piecesN_of hf2
    obtain ⟨g, off, cap, rfl, hg, hp⟩ := HR.out
    obtain ⟨g2, off2, cap2, rfl, hg2, hp2⟩ := hr2
    have hp1 := hp.later hb2
    obtain ⟨p, hpn⟩ : ∃ p, p + 1 = piecesN (quadX l) (quadY l) 4 := ⟨piecesN (quadX l) (quadY l) 4 - 1, by omega⟩
    obtain ⟨q, hqn⟩ : ∃ q, q + 1 = piecesN (quadX l) (quadY l) 3 := ⟨piecesN (quadX l) (quadY l) 3 - 1, by omega⟩
    rw [← hpn] at hp1 k1 k2 ⊢
    rw [← hqn] at hp2 j1 j2 ⊢
    have bx2 : ∀ j, j < 8 → w2.cell? ⟨w.heap.size, j, none⟩ = some (.int .i64 (l j)) := fun j hj => cell_later hb2 (BX.out j hj)
    have B2 := Lib.hid (HB.out.trans (hb2.mono HB.out.size))
    have P1 := Lib.hid hp1
    have P2 := Lib.hid hp2
    clear HB BX HF HR hb2 hq hf2 hp hp1 hp2 hpn hqn hg
    have c0 := bx2 0 (by omega)
    have c1 := bx2 1 (by omega)
    have c2 := bx2 2 (by omega)
    have c3 := bx2 3 (by omega)
    have c4 := bx2 4 (by omega)
    have c5 := bx2 5 (by omega)
    have c6 := bx2 6 (by omega)
    have c7 := bx2 7 (by omega)
    have e1 := (P1.out p (by omega)).1
    have e2 := (P1.out p (by omega)).2
    have e3 := (P2.out q (by omega)).1
    have e4 := (P2.out q (by omega)).2
    simp only [part_end (quadX l) 4 (p + 1) (.inr rfl) k1 k2, part_end (quadY l) 4 (p + 1) (.inr rfl) k1 k2, part_end (quadX l) 3 (q + 1) (.inl rfl) j1 j2, part_end (quadY l) 3 (q + 1) (.inl rfl) j1 j2, quadX, quadY, Nat.reduceAdd, Nat.reduceSub, Nat.reduceMul] at e1 e2 e3 e4
    go_wp2_with fail
    have z1 : decide ((p : Int) + 1 = 0) = false := decide_eq_false (by omega)
    have z2 : decide ((q : Int) + 1 = 0) = false := decide_eq_false (by omega)
    have z3 : ((p : Int) + 1 == 0) = false := by simp; omega
    have z4 : ((q : Int) + 1 == 0) = false := by simp; omega
    have z5 : (((p + 1 : Nat) : Int) == 0) = false := by simp; omega
    have z6 : (((q + 1 : Nat) : Int) == 0) = false := by simp; omega
    have z7 : decide (((p + 1 : Nat) : Int) = 0) = false := decide_eq_false (by omega)
    have z8 : decide (((q + 1 : Nat) : Int) = 0) = false := decide_eq_false (by omega)
    go_quiet (fail)
    clear z1 z2 z3 z4 z5 z6 z7 z8 c0 c1 c2 c3 c4 c5 c6 c7 e1 e2 e3 e4
    obtain ⟨w3, hw3⟩ : ∃ w3, w3 = w2.drewN nq := ⟨_, rfl⟩
    have hB3 : Below w2.heap.size w2 w3 := by rw [hw3]; exact below_drewN (Below.refl _ w2) nq
    have bx3 : ∀ j, j < 8 → w3.cell? ⟨w.heap.size, j, none⟩ = some (.int .i64 (l j)) := fun j hj => cell_later hB3 (bx2 j hj)
    have P1 := Lib.hid (P1.out.later hB3)
    have P2 := Lib.hid (P2.out.later hB3)
    have B3 := Lib.hid (B2.out.trans (hB3.mono B2.out.size))
    rw [← hw3]
    clear hw3 hB3 bx2 B2 hg2
    have c0 := bx3 0 (by omega)
    have c2 := bx3 2 (by omega)
    have c4 := bx3 4 (by omega)
    have c6 := bx3 6 (by omega)
    obtain ⟨lo, hlo⟩ : ∃ lo, lo = mn (mn (mn (l 0) (l 2)) (l 4)) (l 6) := ⟨_, rfl⟩
    obtain ⟨hi, hhi⟩ : ∃ hi, hi = mx (mx (mx (l 0) (l 2)) (l 4)) (l 6) := ⟨_, rfl⟩
    have hmin : ∀ (ts : Array TypeId) (t : TypeId) (W : World), (Builtin.min_ ts t #[.int .i64 (l 0), .int .i64 (l 2), .int .i64 (l 4), .int .i64 (l 6)]).run Try.prog W = .ok (.int .i64 lo) W := fun ts t W => by rw [hlo]; exact run_min4 ts t .i64 _ _ _ _
    have hmax : ∀ (ts : Array TypeId) (t : TypeId) (W : World), (Builtin.max_ ts t #[.int .i64 (l 0), .int .i64 (l 2), .int .i64 (l 4), .int .i64 (l 6)]).run Try.prog W = .ok (.int .i64 hi) W := fun ts t W => by rw [hhi]; exact run_max4 ts t .i64 _ _ _ _
    have hall : ∀ j, j < 4 → lo ≤ quadX l j ∧ quadX l j ≤ hi := by
      intro j hj
      have a := mn4 (l 0) (l 2) (l 4) (l 6)
      have b := mx4 (l 0) (l 2) (l 4) (l 6)
      rw [← hlo] at a
      rw [← hhi] at b
      have h : j = 0 ∨ j = 1 ∨ j = 2 ∨ j = 3 := by omega
      rcases h with rfl | rfl | rfl | rfl
      · exact ⟨a.1, b.1⟩
      · exact ⟨a.2.1, b.2.1⟩
      · exact ⟨a.2.2.1, b.2.2.1⟩
      · exact ⟨a.2.2.2, b.2.2.2⟩
    have I4 := Lib.hid (fun j (hj : j < p + 1) => part_in (X := quadX l) (lo := lo) (hi := hi) 4 (p + 1) (j + 1) (.inr rfl) k1 k2 (by omega) hall)
    have I3 := Lib.hid (fun j (hj : j < q + 1) => part_in (X := quadX l) (lo := lo) (hi := hi) 3 (q + 1) (j + 1) (.inl rfl) j1 j2 (by omega) (fun i hi => hall i (by omega)))
    clear hall hlo hhi bx3
    go_wp2_with fail
    clear hmin hmax c0 c2 c4 c6
    go_loop [9] (fun i => ∃ k : Nat, k ≤ p + 1 ∧ i = .int .i64 k) (fun i => p + 1 - (intOf i).toNat)
    case atStart => exact ⟨0, by omega, rfl⟩
    case round =>
      obtain ⟨k, hk, rfl⟩ := hrel
      by_cases hlt : k < p + 1
      · have hc := (P1.out k hlt).1
        obtain ⟨i1, i2⟩ := I4.out k hlt
        obtain ⟨z, hz⟩ : ∃ z, z = partN (quadX l) 4 (p + 1) (k + 1) := ⟨_, rfl⟩
        simp only [← hz] at hc i1 i2
        clear hz
        go_wp2_with fail
        go_round
        case rel => exact ⟨k + 1, by omega, by go_num⟩
        case measure => simp [intOf]; omega
      · go_wp2_with fail
        go_loop [10] (fun i => ∃ k : Nat, k ≤ q + 1 ∧ i = .int .i64 k) (fun i => q + 1 - (intOf i).toNat)
        case atStart => exact ⟨0, by omega, rfl⟩
        case round =>
          obtain ⟨j, hj, rfl⟩ := hrel
          by_cases hlj : j < q + 1
          · have hc := (P2.out j hlj).1
            obtain ⟨i1, i2⟩ := I3.out j hlj
            obtain ⟨z, hz⟩ : ∃ z, z = partN (quadX l) 3 (q + 1) (j + 1) := ⟨_, rfl⟩
            simp only [← hz] at hc i1 i2
            clear hz
            go_wp2_with fail
            go_round
            case rel => exact ⟨j + 1, by omega, by go_num⟩
            case measure => simp [intOf]; omega
          · go_wp2_with fail
            refine (lives11 w3).mono ?_
            rintro e w4 ⟨rfl, hb4⟩
            have B4 := Lib.hid hb4
            clear hb4
            go_wp2_with fail
            go_ret
            exact ⟨rfl, B3.out.trans (B4.out.mono B3.out.size)⟩
end Go.Proofs.Ytbmbibjidpgbnaa
