/- Contracts of package bez: size, bend, near, weights, fits. -/
import Derived.Test.YthglgempbdaikaaRef
namespace Go.Proofs.Ythglgempbdaikaa
open Go.RowKit

def absI (n : Int) : Int := if n < 0 then -n else n
theorem size_any (n : Int) (w : World) (h0 : -9000000000000000000 ≤ n) (h1 : n ≤ 9000000000000000000) : Calls Try.prog 54 #[.int .i64 n] w fun e w' => e = .returned (.int .i64 (absI n)) ∧ w = w' := by
  by_cases h : n < 0
  · have e : absI n = -n := if_pos h
    rw [e]; clear e
    go_enter Try.func54, Try.ntmps54
    go_wp2
    go_ret
    exact ⟨rfl, rfl⟩
  · have e : absI n = n := if_neg h
    rw [e]; clear e
    go_enter Try.func54, Try.ntmps54
    go_wp2
    go_ret
    exact ⟨rfl, rfl⟩
def bendI (a b c : Int) : Int := absI (a - 2 * b + c)
theorem bend_any (a b c : Int) (w : World) (ha : -1000000000 ≤ a ∧ a ≤ 1000000000) (hb : -1000000000 ≤ b ∧ b ≤ 1000000000) (hc : -1000000000 ≤ c ∧ c ≤ 1000000000) :
    Calls Try.prog 40 #[.int .i64 a, .int .i64 b, .int .i64 c] w fun e w' => e = .returned (.int .i64 (bendI a b c)) ∧ w = w' := by
  go_enter Try.func40, Try.ntmps40
  go_wp2_with (first | (go_at_call 54; refine (size_any _ _ (by omega) (by omega)).mono ?_; rintro e w' ⟨rfl, rfl⟩))
  go_ret
  exact ⟨rfl, rfl⟩
/-- the nearest whole number, by a number above 0 -/
def nearI (n b : Int) : Int := (2 * n + b) / (2 * b)
theorem near_div {m c : Int} (hc : 0 < c) : m / c = if m.tmod c < 0 then m.tdiv c - 1 else m.tdiv c := by
  have h1 := Int.mul_tdiv_add_tmod m c
  have h2 := Int.emod_add_mul_ediv m c
  have h3 := Int.emod_nonneg m (by omega : c ≠ 0)
  have h4 := Int.emod_lt_of_pos m hc
  have h5 : -c < m.tmod c := by
    rcases Int.le_total 0 m with h | h
    · have := Int.tmod_nonneg c h; omega
    · have := Int.tmod_lt_of_pos (-m) hc
      rw [Int.neg_tmod] at this; omega
  have h6 : m.tmod c < c := Int.tmod_lt_of_pos m hc
  split
  · rename_i h
    have hq : c * (m / c - (m.tdiv c - 1)) = m.tmod c + c - m % c := by
      rw [Int.mul_sub, Int.mul_sub]; omega
    have hlo : -c < c * (m / c - (m.tdiv c - 1)) := by omega
    have hhi : c * (m / c - (m.tdiv c - 1)) < c := by omega
    have : m / c - (m.tdiv c - 1) = 0 := by
      rcases Int.lt_trichotomy (m / c - (m.tdiv c - 1)) 0 with hz | hz | hz
      · have := Int.mul_le_mul_of_nonneg_left (show m / c - (m.tdiv c - 1) ≤ -1 by omega) (Int.le_of_lt hc); omega
      · exact hz
      · have := Int.mul_le_mul_of_nonneg_left (show 1 ≤ m / c - (m.tdiv c - 1) by omega) (Int.le_of_lt hc); omega
    omega
  · rename_i h
    have hq : c * (m / c - m.tdiv c) = m.tmod c - m % c := by
      rw [Int.mul_sub]; omega
    have : m / c - m.tdiv c = 0 := by
      rcases Int.lt_trichotomy (m / c - m.tdiv c) 0 with hz | hz | hz
      · have := Int.mul_le_mul_of_nonneg_left (show m / c - m.tdiv c ≤ -1 by omega) (Int.le_of_lt hc); omega
      · exact hz
      · have := Int.mul_le_mul_of_nonneg_left (show 1 ≤ m / c - m.tdiv c by omega) (Int.le_of_lt hc); omega
    omega

theorem bnear_any (n b : Int) (w : World) (h0 : -4000000000000000000 ≤ n) (h1 : n ≤ 4000000000000000000) (hb0 : 0 < b) (hb1 : b ≤ 1000000000) :
    Calls Try.prog 71 #[.int .i64 n, .int .i64 b] w fun e w' => e = .returned (.int .i64 (nearI n b)) ∧ w = w' := by
  have hd := near_div (m := 2 * n + b) (c := 2 * b) (by omega)
  have e : nearI n b = (2 * n + b) / (2 * b) := rfl
  rw [e, hd]
  clear e hd
  have hq1 : -9000000000000000000 ≤ (2 * n + b).tdiv (2 * b) ∧ (2 * n + b).tdiv (2 * b) ≤ 9000000000000000000 := by
    have := Int.natAbs_tdiv_le_natAbs (2 * n + b) (2 * b)
    omega
  obtain ⟨hq1, hq2⟩ := hq1
  by_cases h : (2 * n + b).tmod (2 * b) < 0
  · rw [if_pos h]
    go_enter Try.func71, Try.ntmps71
    go_wp2
    go_ret
    exact ⟨rfl, rfl⟩
  · rw [if_neg h]
    go_enter Try.func71, Try.ntmps71
    go_wp2
    go_ret
    exact ⟨rfl, rfl⟩

/-- a point by the weights of two or three shares: the sums of both -/
theorem wei2_any (k n : Nat) (w : World) (hk : k ≤ n) (hn : n ≤ 32) :
    Calls Try.prog 70 #[.int .i64 2, .int .i64 k, .int .i64 n] w fun e w' => e = .returned (.tuple #[.agg #[.int .i64 (((n : Int) - k) * ((n : Int) - k)), .int .i64 (2 * ((n : Int) - k) * k), .int .i64 ((k : Int) * k), .int .i64 0], .int .i64 ((n : Int) * n)]) ∧ Below w.heap.size w w' := by
  have b1 := mul_bd (a := (n : Int) - k) (x := (n : Int) - k) (A := 32) (X := 32) (by omega) (by omega)
  have b2 := mul_bd (a := 2 * ((n : Int) - k)) (x := (k : Int)) (A := 64) (X := 32) (by omega) (by omega)
  have b3 := mul_bd (a := (k : Int)) (x := (k : Int)) (A := 32) (X := 32) (by omega) (by omega)
  have b4 := mul_bd (a := (n : Int)) (x := (n : Int)) (A := 32) (X := 32) (by omega) (by omega)
  simp only [Int.reduceMul, Int.reduceNeg] at b1 b2 b3 b4
  obtain ⟨b11, b12⟩ := b1
  obtain ⟨b21, b22⟩ := b2
  obtain ⟨b31, b32⟩ := b3
  obtain ⟨b41, b42⟩ := b4
  go_enter Try.func70, Try.ntmps70
  go_wp2
  refine bodyPost_ret (v := .tuple #[.agg #[.int .i64 (((n : Int) - k) * ((n : Int) - k)), .int .i64 (2 * ((n : Int) - k) * k), .int .i64 ((k : Int) * k), .int .i64 0], .int .i64 ((n : Int) * n)]) ?_ rfl ⟨rfl, ?_⟩
  · simp [results, Try.results70, go_sem]
  · ((repeat' (first | with_reducible exact Below.refl _ _ | with_reducible assumption | with_reducible refine Below.drew ?_ | with_reducible refine Below.alloc ?_ ?_ _ | with_reducible refine Below.setCell ?_ ?_ _)) <;> (first | omega | (simp; done) | (simp; omega)))
end Go.Proofs.Ythglgempbdaikaa
