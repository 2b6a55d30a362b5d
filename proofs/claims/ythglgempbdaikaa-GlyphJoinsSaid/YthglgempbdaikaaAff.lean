/- Contracts of the functions of package affine that the laws of layer 10 reach: within, Fits, May, near, Det, Flat, Apply. -/
import Derived.Test.YthglgempbdaikaaRows
import Derived.WalkKit
import Derived.WalkLawsBesides
import Derived.WalkSpells
import Derived.BigQuiet
import Derived.Deep.QuietTactic
import Derived.Outline
import Derived.Lib.Hide
namespace Go.Proofs.Ythglgempbdaikaa
open Go.RowKit

def within (n m : Int) : Bool := decide (-m ≤ n ∧ n ≤ m)

theorem within_any (n m : Int) (w : World) (h0 : 0 ≤ m) (h1 : m ≤ 1000000000) :
    Calls Try.prog 41 #[.int .i64 n, .int .i64 m] w fun e w' => e = .returned (.bool (within n m)) ∧ w = w' := by
  by_cases h2 : -m ≤ n <;> by_cases h3 : n ≤ m
  all_goals
    go_enter Try.func41, Try.ntmps41
    go_wp2
    go_ret
    simp [within, h2, h3]

/-- a point fits -/
def fits (x y : Int) : Bool := within x 8388607 && within y 8388607

set_option maxHeartbeats 400000 in
theorem fits_any (x y : Int) (w : World) :
    Calls Try.prog 30 #[.agg #[.int .i64 x, .int .i64 y]] w fun e w' => e = .returned (.bool (fits x y)) ∧ w' = w.alloc (.cells #[.int .i64 x, .int .i64 y] 42) := by
  cases h1 : within x 8388607
  all_goals
    go_enter Try.func30, Try.ntmps30
    go_wp2_with (go_at_call 41; refine (within_any _ _ _ (by omega) (by omega)).mono ?_; rintro e w' ⟨rfl, rfl⟩)
    go_ret
    simp [fits, h1]

theorem mul_bd {a x A X : Int} (ha : -A ≤ a ∧ a ≤ A) (hx : -X ≤ x ∧ x ≤ X) : -(A * X) ≤ a * x ∧ a * x ≤ A * X := by
  have hA : 0 ≤ A := by omega
  have hX : 0 ≤ X := by omega
  have h1 : (A + a) * (X - x) ≥ 0 := Int.mul_nonneg (by omega) (by omega)
  have h2 : (A - a) * (X + x) ≥ 0 := Int.mul_nonneg (by omega) (by omega)
  have h3 : (A + a) * (X + x) ≥ 0 := Int.mul_nonneg (by omega) (by omega)
  have h4 : (A - a) * (X - x) ≥ 0 := Int.mul_nonneg (by omega) (by omega)
  simp only [Int.add_mul, Int.sub_mul, Int.mul_add, Int.mul_sub] at h1 h2 h3 h4
  omega

end Go.Proofs.Ythglgempbdaikaa
