/- Contracts of package glyph: May, Find, get. -/
import Derived.Test.YthglgempbdaikaaGj1
import Derived.Test.YthglgempbdaikaaPc1
namespace Go.Proofs.Ythglgempbdaikaa
open Go.RowKit

set_option maxRecDepth 100000 in
set_option maxHeartbeats 3200000 in
theorem may_any (g : Gl) (p : Option Addr) (c : Nat) (w : World) (h : Sts w (.slice p g.n c) g.n g.F) : Calls Try.prog 43 #[.agg #[.int .i64 g.code, .int .i64 g.adv, .slice p g.n c]] w (RetPost (.bool (mayG g)) w) := by
  have ME : Hid (mayG g = decide ((33 ≤ g.code ∧ g.code ≤ 126) ∧ (0 ≤ g.adv ∧ g.adv ≤ 8388607) ∧ checkE g.F g.n = 0)) := Lib.hid rfl
  obtain ⟨code, adv, n, F⟩ := g
  dsimp only at *
  obtain ⟨w1, hw1⟩ : ∃ w1, w1 = w.alloc (.cells #[.int .i64 code, .int .i64 adv, .slice p n c] 78) := ⟨_, rfl⟩
  obtain ⟨X, hX⟩ : ∃ X, X = w.heap.size := ⟨_, rfl⟩
  have X1 : Hid (BxAt w1 X [.int .i64 code, .int .i64 adv, .slice p n c]) := Lib.hid (by rw [hw1, hX]; exact BxAt.new w _ _)
  have b1 : Below w.heap.size w w1 := by rw [hw1]; exact below_alloc _ _
  have B1 := Lib.hid b1
  have CA := Lib.hid (count_any (.slice p n c) n F w1 (h.later b1))
  have WA := Lib.hid (And.intro hw1 hX)
  have x0 := X1.out.2.2 0 _ rfl
  have x1 := X1.out.2.2 1 _ rfl
  have x2 := X1.out.2.2 2 _ rfl
  obtain ⟨mg, hmg⟩ : ∃ m, m = mayG ⟨code, adv, n, F⟩ := ⟨_, rfl⟩
  rw [← hmg] at ME ⊢
  clear hw1 hX b1 h hmg
  by_cases h1 : code < 33
  · have e : mg = false := by rw [ME.out]; exact decide_eq_false fun h => by omega
    subst e
    have d1 : decide (code < 33) = true := decide_eq_true h1
    go_enter Try.func43, Try.ntmps43
    go_wp2_with fail
    rw [← WA.out.1]
    go_ret
    exact ⟨rfl, B1.out⟩
  have d1 : decide (code < 33) = false := decide_eq_false h1
  by_cases h2 : 126 < code
  · have e : mg = false := by rw [ME.out]; exact decide_eq_false fun h => by omega
    subst e
    have d2 : decide (126 < code) = true := decide_eq_true h2
    go_enter Try.func43, Try.ntmps43
    go_wp2_with fail
    rw [← WA.out.1]
    go_ret
    exact ⟨rfl, B1.out⟩
  have d2 : decide (126 < code) = false := decide_eq_false h2
  by_cases h3 : adv < 0
  · have e : mg = false := by rw [ME.out]; exact decide_eq_false fun h => by omega
    subst e
    have d3 : decide (adv < 0) = true := decide_eq_true h3
    go_enter Try.func43, Try.ntmps43
    go_wp2_with fail
    rw [← WA.out.1]
    go_ret
    exact ⟨rfl, B1.out⟩
  have d3 : decide (adv < 0) = false := decide_eq_false h3
  by_cases h4 : 8388607 < adv
  · have e : mg = false := by rw [ME.out]; exact decide_eq_false fun h => by omega
    subst e
    have d4 : decide (8388607 < adv) = true := decide_eq_true h4
    go_enter Try.func43, Try.ntmps43
    go_wp2_with fail
    rw [← WA.out.1]
    go_ret
    exact ⟨rfl, B1.out⟩
  have d4 : decide (8388607 < adv) = false := decide_eq_false h4
  have ME2 : Hid (mg = decide (checkE F n = 0)) := Lib.hid (by
    rw [ME.out]
    by_cases h5 : checkE F n = 0
    · rw [decide_eq_true h5]
      exact decide_eq_true ⟨by omega, by omega, h5⟩
    · rw [decide_eq_false h5]
      exact decide_eq_false fun h => h5 h.2.2)
  clear ME
  go_enter Try.func43, Try.ntmps43
  go_wp2_with fail
  rw [← WA.out.1]
  refine CA.out.mono ?_
  rintro e w2 ⟨hb2, h2⟩
  have B2 := Lib.hid (bthen B1.out hb2)
  clear hb2
  obtain ⟨ce, hce⟩ : ∃ ce, ce = checkE F n := ⟨_, rfl⟩
  rw [← hce] at ME2 h2
  clear hce
  rcases h2 with ⟨h0, rfl⟩ | ⟨h0, rfl⟩
  · have e : mg = false := by rw [ME2.out]; exact decide_eq_false h0
    subst e
    have d5 : (ce == 0) = false := by simpa using h0
    go_wp2_with fail
    go_ret
    exact ⟨by simp, B2.out⟩
  · have e : mg = true := by rw [ME2.out]; exact decide_eq_true h0
    subst e
    go_wp2_with fail
    go_ret
    exact ⟨rfl, B2.out⟩
end Go.Proofs.Ythglgempbdaikaa
