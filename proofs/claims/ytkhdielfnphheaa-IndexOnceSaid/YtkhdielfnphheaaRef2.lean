/- Contract of the reference's May, of a glyph. -/
import Derived.Test.YtkhdielfnphheaaMay0
namespace Go.Proofs.Ytkhdielfnphheaa
open Go.RowKit

set_option maxRecDepth 100000 in
set_option maxHeartbeats 3200000 in
theorem rgmay32 (g : Gl) (p : Option Addr) (c : Nat) (w : World) (h : Sts w (.slice p g.n c) g.n g.F) : Calls Try.prog 32 #[.agg #[.int .i64 g.code, .int .i64 g.adv, .slice p g.n c]] w (RetPost (.bool (mayG g)) w) := by
  have ME : Hid (mayG g = decide ((33 ≤ g.code ∧ g.code ≤ 126) ∧ (0 ≤ g.adv ∧ g.adv ≤ 8388607) ∧ checkE g.F g.n = 0)) := Lib.hid rfl
  obtain ⟨code, adv, n, F⟩ := g
  dsimp only at *
  obtain ⟨w1, hw1⟩ : ∃ w1, w1 = w.alloc (.cells #[.int .i64 code, .int .i64 adv, .slice p n c] 66) := ⟨_, rfl⟩
  obtain ⟨X, hX⟩ : ∃ X, X = w.heap.size := ⟨_, rfl⟩
  have X1 : Hid (BxAt w1 X [.int .i64 code, .int .i64 adv, .slice p n c]) := Lib.hid (by rw [hw1, hX]; exact BxAt.new w _ _)
  have b1 : Below w.heap.size w w1 := by rw [hw1]; exact below_alloc _ _
  have B1 := Lib.hid b1
  have CA := Lib.hid (rcheck_any (.slice p n c) n F w1 (h.later b1))
  have WA := Lib.hid (And.intro hw1 hX)
  have x0 := X1.out.2.2 0 _ rfl
  have x1 := X1.out.2.2 1 _ rfl
  have x2 := X1.out.2.2 2 _ rfl
  obtain ⟨mg, hmg⟩ : ∃ m, m = mayG ⟨code, adv, n, F⟩ := ⟨_, rfl⟩
  rw [← hmg] at ME ⊢
  clear hw1 hX b1 h hmg
  go_enter Try.func32, Try.ntmps32
  go_upto_region 1 with (fail)
  rw [← WA.out.2, ← WA.out.1]
  by_cases h1 : 33 ≤ code
  · by_cases h2 : code ≤ 126
    · by_cases h3 : 0 ≤ adv
      · by_cases h4 : adv ≤ 8388607
        · have ME2 : Hid (mg = decide (checkE F n = 0)) := Lib.hid (by
            rw [ME.out]
            by_cases h5 : checkE F n = 0
            · rw [decide_eq_true h5]
              exact decide_eq_true ⟨by omega, by omega, h5⟩
            · rw [decide_eq_false h5]
              exact decide_eq_false fun h => h5 h.2.2)
          clear ME
          go_wp2_with fail
          refine CA.out.mono ?_
          rintro e w2 ⟨rfl, hb2⟩
          have B2 := Lib.hid (bthen B1.out hb2)
          obtain ⟨ce, hce⟩ : ∃ ce, ce = checkE F n := ⟨_, rfl⟩
          rw [← hce] at ME2 ⊢
          clear hb2 hce
          by_cases h5 : ce = 0
          · have e : Hid (mg = true) := Lib.hid (by rw [ME2.out]; exact decide_eq_true h5)
            subst h5
            go_wp2_with fail
            go_ret
            exact ⟨by rw [e.out]; rfl, B2.out⟩
          · have e : Hid (mg = false) := Lib.hid (by rw [ME2.out]; exact decide_eq_false h5)
            have d5 : (ce == 0) = false := by simpa using h5
            go_wp2_with fail
            go_ret
            exact ⟨by rw [e.out]; rfl, B2.out⟩
        · have e : Hid (mg = false) := Lib.hid (by rw [ME.out]; exact decide_eq_false fun h => by omega)
          go_wp2_with fail
          go_ret
          exact ⟨by rw [e.out]; first | rfl | (simp; omega), B1.out⟩
      · have e : Hid (mg = false) := Lib.hid (by rw [ME.out]; exact decide_eq_false fun h => by omega)
        go_wp2_with fail
        go_ret
        exact ⟨by rw [e.out]; first | rfl | (simp; omega), B1.out⟩
    · have e : Hid (mg = false) := Lib.hid (by rw [ME.out]; exact decide_eq_false fun h => by omega)
      go_wp2_with fail
      go_ret
      exact ⟨by rw [e.out]; first | rfl | (simp; omega), B1.out⟩
  · have e : Hid (mg = false) := Lib.hid (by rw [ME.out]; exact decide_eq_false fun h => by omega)
    go_wp2_with fail
    go_ret
    exact ⟨by rw [e.out]; first | rfl | (simp; omega), B1.out⟩
end Go.Proofs.Ytkhdielfnphheaa
