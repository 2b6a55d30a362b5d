/- Contracts of frisketref10: Fits, factor, May. -/
import Derived.Test.YthglgempbdaikaaAff2
import Derived.Test.YthglgempbdaikaaSl
namespace Go.Proofs.Ythglgempbdaikaa
open Go.RowKit
set_option maxHeartbeats 1600000 in
theorem rfits_any (x y : Int) (w : World) :
    Calls Try.prog 37 #[.agg #[.int .i64 x, .int .i64 y]] w fun e w' => e = .returned (.bool (fits x y)) ∧ w' = w.alloc (.cells #[.int .i64 x, .int .i64 y] 42) := by
  by_cases h1 : -8388607 ≤ x <;> by_cases h2 : x ≤ 8388607 <;> by_cases h3 : -8388607 ≤ y <;> by_cases h4 : y ≤ 8388607
  all_goals first | (exfalso; omega) | skip
  all_goals
    have e : fits x y = (decide (-8388607 ≤ x) && decide (x ≤ 8388607) && (decide (-8388607 ≤ y) && decide (y ≤ 8388607))) := by simp [fits, within]
    have E := Lib.hid e
    clear e
    go_enter Try.func37, Try.ntmps37
    go_wp2
    go_ret
    rw [E.out]
    simp [h1, h2, h3, h4]
end Go.Proofs.Ythglgempbdaikaa
