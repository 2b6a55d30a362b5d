/- Plain laws of curves: ends and bounds. -/
import Derived.Test.YthglgempbdaikaaBez5
namespace Go.Proofs.Ythglgempbdaikaa
open Go.RowKit

theorem near_in {n b lo hi : Int} (hb : 0 < b) (h1 : lo * b ≤ n) (h2 : n ≤ hi * b) : lo ≤ nearI n b ∧ nearI n b ≤ hi := by
  unfold nearI
  constructor
  · rw [Int.le_ediv_iff_mul_le (by omega)]
    have : lo * (2 * b) = 2 * (lo * b) := by rw [Int.mul_left_comm]
    omega
  · have h : (2 * n + b) / (2 * b) < hi + 1 := by
      rw [Int.ediv_lt_iff_lt_mul (by omega)]
      have : (hi + 1) * (2 * b) = 2 * (hi * b) + 2 * b := by rw [Int.add_mul, Int.one_mul, Int.mul_left_comm]
      omega
    omega
theorem sumW_in {W X : Nat → Int} {lo hi : Int} (i : Nat) (hW : ∀ j, j < i → 0 ≤ W j) (hX : ∀ j, j < i → lo ≤ X j ∧ X j ≤ hi) : lo * sumW W (fun _ => 1) i ≤ sumW W X i ∧ sumW W X i ≤ hi * sumW W (fun _ => 1) i := by
  induction i with
  | zero => simp [sumW]
  | succ i ih =>
    have h := ih (fun j hj => hW j (by omega)) (fun j hj => hX j (by omega))
    have a := Int.mul_le_mul_of_nonneg_left (hX i (by omega)).1 (hW i (by omega))
    have b := Int.mul_le_mul_of_nonneg_left (hX i (by omega)).2 (hW i (by omega))
    unfold sumW
    rw [Int.mul_add, Int.mul_add, Int.mul_one, Int.mul_comm lo (W i), Int.mul_comm hi (W i)]
    omega
theorem wt_nn (m k n j : Nat) (hk : k ≤ n) : 0 ≤ wt m k n j := by
  obtain ⟨l, hl⟩ : ∃ l : Nat, (l : Int) = (n : Int) - k := ⟨n - k, by omega⟩
  unfold wt
  rw [← hl]
  repeat' split
  all_goals first | omega | (exact_mod_cast Nat.zero_le _)
theorem wt_sum (m k n : Nat) (hm : m = 3 ∨ m = 4) : sumW (wt m k n) (fun _ => 1) m = byI m n := by
  rcases hm with rfl | rfl
  · simp [sumW, wt, byI]
    grind
  · simp [sumW, wt, byI]
    grind
theorem part_in {X : Nat → Int} {lo hi : Int} (m n k : Nat) (hm : m = 3 ∨ m = 4) (h1 : 1 ≤ n) (h2 : n ≤ 32) (hk : k ≤ n) (hX : ∀ j, j < m → lo ≤ X j ∧ X j ≤ hi) : lo ≤ partN X m n k ∧ partN X m n k ≤ hi := by
  have h := sumW_in (W := wt m k n) m (fun j _ => wt_nn m k n j hk) hX
  rw [wt_sum m k n hm] at h
  exact near_in (byI_le m n h1 h2).1 h.1 h.2
theorem part_end (X : Nat → Int) (m n : Nat) (hm : m = 3 ∨ m = 4) (h1 : 1 ≤ n) (h2 : n ≤ 32) : partN X m n n = X (m - 1) := by
  have hs : sumW (wt m n n) X m = X (m - 1) * byI m n := by
    rcases hm with rfl | rfl
    · simp [sumW, wt, byI, Int.mul_comm]
    · simp [sumW, wt, byI, Int.mul_comm]
  have h := near_in (n := sumW (wt m n n) X m) (lo := X (m - 1)) (hi := X (m - 1)) (byI_le m n h1 h2).1 (by omega) (by omega)
  unfold partN
  omega
theorem piecesN_of {X Y : Nat → Int} {m : Nat} (h : fitsTo X Y m = true) : 1 ≤ piecesN X Y m ∧ piecesN X Y m ≤ 32 := by
  unfold piecesN; rw [if_pos h]; exact pc_le _
theorem fits_of_pieces {X Y : Nat → Int} {m : Nat} (h : piecesN X Y m = 0) : fitsTo X Y m = false := by
  cases e : fitsTo X Y m
  · rfl
  · have := piecesN_of e; omega
theorem fits3 {X Y : Nat → Int} (h : fitsTo X Y 4 = true) : fitsTo X Y 3 = true := by
  unfold fitsTo at h
  rw [Bool.and_eq_true] at h
  exact h.1

end Go.Proofs.Ythglgempbdaikaa
