/- Contracts of package glyph: sized, scaled, point. -/
import Derived.Test.YthglgempbdaikaaGj0
namespace Go.Proofs.Ythglgempbdaikaa
open Go.RowKit

theorem sized_any (size : Int) (w : World) : Calls Try.prog 29 #[.int .i64 size] w fun e w' => e = .returned (.bool (decide (1 ≤ size ∧ size ≤ 65536))) ∧ w = w' := by
  by_cases h1 : 1 ≤ size
  · by_cases h2 : size ≤ 65536
    · have e : decide (1 ≤ size ∧ size ≤ 65536) = true := decide_eq_true ⟨h1, h2⟩
      rw [e]
      have d1 : decide (1 ≤ size) = true := decide_eq_true h1
      have d2 : decide (size ≤ 65536) = true := decide_eq_true h2
      go_enter Try.func29, Try.ntmps29
      go_wp2
      go_ret
      exact ⟨rfl, rfl⟩
    · have e : decide (1 ≤ size ∧ size ≤ 65536) = false := decide_eq_false fun h => h2 h.2
      rw [e]
      have d1 : decide (1 ≤ size) = true := decide_eq_true h1
      have d2 : decide (size ≤ 65536) = false := decide_eq_false h2
      go_enter Try.func29, Try.ntmps29
      go_wp2
      go_ret
      exact ⟨rfl, rfl⟩
  · have e : decide (1 ≤ size ∧ size ≤ 65536) = false := decide_eq_false fun h => h1 h.1
    rw [e]
    have d1 : decide (1 ≤ size) = false := decide_eq_false h1
    go_enter Try.func29, Try.ntmps29
    go_wp2
    go_ret
    exact ⟨rfl, rfl⟩
theorem floor_t (v : Int) : (v.tmod 2048 < 0 → v / 2048 = v.tdiv 2048 - 1) ∧ (¬ v.tmod 2048 < 0 → v / 2048 = v.tdiv 2048) := by
  rcases Int.le_total 0 v with h | h
  · rw [Int.tmod_eq_emod_of_nonneg h, Int.tdiv_eq_ediv_of_nonneg h]
    constructor <;> intro h2 <;> omega
  · obtain ⟨u, rfl⟩ : ∃ u, v = -u := ⟨-v, by omega⟩
    rw [Int.neg_tmod, Int.neg_tdiv, Int.tmod_eq_emod_of_nonneg (by omega), Int.tdiv_eq_ediv_of_nonneg (by omega)]
    constructor <;> intro h2 <;> omega
theorem mul_rng {n size : Int} (hn : -16777216 ≤ n ∧ n ≤ 16777216) (hs : 0 ≤ size ∧ size ≤ 65536) : -1099511627776 ≤ n * size ∧ n * size ≤ 1099511627776 := by
  have h1 : -16777216 * size ≤ n * size := Int.mul_le_mul_of_nonneg_right hn.1 hs.1
  have h2 : n * size ≤ 16777216 * size := Int.mul_le_mul_of_nonneg_right hn.2 hs.1
  omega
theorem scl_rng {n size : Int} (hn : -16777216 ≤ n ∧ n ≤ 16777216) (hs : 0 ≤ size ∧ size ≤ 65536) : -2147483648 ≤ sclI n size ∧ sclI n size ≤ 2147483648 := by
  have h := mul_rng hn hs
  unfold sclI
  rw [Int.mul_assoc]
  omega
theorem scaled_any (n size : Int) (w : World) (hn : -16777216 ≤ n ∧ n ≤ 16777216) (hs : 0 ≤ size ∧ size ≤ 65536) : Calls Try.prog 45 #[.int .i64 n, .int .i64 size] w fun e w' => e = .returned (.int .i64 (sclI n size)) ∧ w = w' := by
  have hm := mul_rng hn hs
  obtain ⟨v, hv⟩ : ∃ v, v = 2 * n * size + 1024 := ⟨_, rfl⟩
  have hv2 : -2199023256576 ≤ v ∧ v ≤ 2199023256576 := by rw [hv, Int.mul_assoc]; omega
  have hp1 : -2199023255552 ≤ 2 * n * size ∧ 2 * n * size ≤ 2199023255552 := by rw [Int.mul_assoc]; omega
  have e : sclI n size = v / 2048 := by rw [hv]; rfl
  obtain ⟨f1, f2⟩ := floor_t v
  have r1 : IntKind.i64.wrap (2 * n) = 2 * n := IntWalk.i64_in _ (by omega)
  have r2 : IntKind.i64.wrap (2 * n * size) = 2 * n * size := IntWalk.i64_in _ (by omega)
  have r3 : IntKind.i64.wrap (2 * n * size + 1024) = v := by rw [← hv]; exact IntWalk.i64_in _ (by omega)
  have t1 : -2199023256576 ≤ v.tdiv 2048 ∧ v.tdiv 2048 ≤ 2199023256576 := by
    by_cases h : v.tmod 2048 < 0
    · have := f1 h; omega
    · have := f2 h; omega
  have r4 : IntKind.i64.wrap (v.tdiv 2048) = v.tdiv 2048 := IntWalk.i64_in _ (by omega)
  have t2 : -2048 ≤ v.tmod 2048 ∧ v.tmod 2048 ≤ 2048 := by
    have := Int.tmod_lt_of_pos v (show (0 : Int) < 2048 by omega)
    have := Int.lt_tmod_of_pos v (show (0 : Int) < 2048 by omega)
    omega
  have r5 : IntKind.i64.wrap (v.tmod 2048) = v.tmod 2048 := IntWalk.i64_in _ (by omega)
  have r6 : IntKind.i64.wrap (v.tdiv 2048 - 1) = v.tdiv 2048 - 1 := IntWalk.i64_in _ (by omega)
  rw [e]
  clear e hm hp1 hv2 t2
  have HV := Lib.hid hv
  clear hv
  by_cases h : v.tmod 2048 < 0
  · rw [f1 h]
    have dd : decide (v.tmod 2048 < 0) = true := decide_eq_true h
    clear f1 f2
    go_enter Try.func45, Try.ntmps45
    go_wp2_with fail
    go_ret
    exact ⟨rfl, rfl⟩
  · rw [f2 h]
    have dd : decide (v.tmod 2048 < 0) = false := decide_eq_false h
    clear f1 f2
    go_enter Try.func45, Try.ntmps45
    go_wp2_with fail
    go_ret
    exact ⟨rfl, rfl⟩
end Go.Proofs.Ythglgempbdaikaa
