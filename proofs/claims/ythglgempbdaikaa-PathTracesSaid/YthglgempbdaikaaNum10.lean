/- Contracts of the reference's numbers: bit, Bits. -/
import Derived.Test.YthglgempbdaikaaNum6
namespace Go.Proofs.Ythglgempbdaikaa
open Go.RowKit

theorem bit_of (a i : Nat) : a / 65536 ^ (i / 16) % 65536 / 2 ^ (i % 16) % 2 = a / 2 ^ i % 2 := by
  have e : 2 ^ i = 65536 ^ (i / 16) * 2 ^ (i % 16) := by
    rw [show (65536 : Nat) = 2 ^ 16 by decide, ← Nat.pow_mul, ← Nat.pow_add, Nat.div_add_mod]
  rw [e, ← Nat.div_div_eq_div_mul]
  obtain ⟨y, hy⟩ : ∃ y, y = a / 65536 ^ (i / 16) := ⟨_, rfl⟩
  rw [← hy]
  have h16 : i % 16 < 16 := Nat.mod_lt _ (by omega)
  obtain ⟨j, hj⟩ : ∃ j, j = i % 16 := ⟨_, rfl⟩
  rw [← hj] at h16 ⊢
  have e2 : (65536 : Nat) = 2 ^ j * 2 * 2 ^ (15 - j) := by
    rw [← Nat.pow_succ, ← Nat.pow_add, show j + 1 + (15 - j) = 16 by omega]
  have e3 : y % 65536 / 2 ^ j % 2 = y / 2 ^ j % 2 := by
    rw [e2, Nat.mul_assoc, Nat.mod_mul_right_div_self, Nat.mod_mul_right_mod]
  exact e3
set_option maxRecDepth 100000 in
set_option maxHeartbeats 1600000 in
theorem bit_any (v : Value) (a i : Nat) (w : World) (hi : i ≤ 100000) (h : Dg w v a) : Calls Try.prog 85 #[v, .int .i64 i] w fun e w' => e = .returned (.int .u64 (a / 2 ^ i % 2 : Nat)) ∧ w = w' := by
  have P1 := at_dg _ a (i / 16) w (by omega) h
  have HB := Lib.hid (bit_of a i)
  obtain ⟨x, hx⟩ : ∃ x, x = a / 65536 ^ (i / 16) % 65536 := ⟨_, rfl⟩
  have hx1 : x < 65536 := by omega
  rw [← hx] at P1 HB
  obtain ⟨q, hq⟩ : ∃ q, q = i / 16 := ⟨_, rfl⟩
  have hqi : (i : Int) / 16 = (q : Int) := by omega
  obtain ⟨r, hr⟩ : ∃ r, r = i % 16 := ⟨_, rfl⟩
  have hri : (i : Int) % 16 = (r : Int) := by omega
  have hr1 : r < 16 := by omega
  rw [← hq] at P1
  rw [← hr] at HB
  have P1 := Lib.hid P1
  clear hx hq hr h
  go_enter Try.func85, Try.ntmps85
  go_wp2_with fail
  refine P1.out.mono ?_
  rintro e w' ⟨rfl, rfl⟩
  go_wp2_with fail
  go_ret
  refine ⟨congrArg (fun z => Ending.returned (Value.int .u64 z)) ?_, rfl⟩
  rw [← HB.out, show ((x : Int) / 2 ^ r) = ((x / 2 ^ r : Nat) : Int) by simp, Int.tmod_eq_emod_of_nonneg (Int.natCast_nonneg _)]
  rfl
def BitsPost (a : Nat) (w : World) (e : Ending) (w' : World) : Prop := ∃ r : Int, e = .returned (.int .i64 r) ∧ (r = 0 ↔ a = 0) ∧ Below w.heap.size w w'
theorem half_step {a k : Nat} (h : a / 2 ^ (k + 1) = 0) : (a / 2 ^ k % 2 = 1 → a ≠ 0) ∧ (a / 2 ^ k % 2 ≠ 1 → a / 2 ^ k = 0) := by
  rw [Nat.pow_succ, ← Nat.div_div_eq_div_mul] at h
  constructor
  · intro h1 h2
    subst h2
    simp at h1
  · intro h1; omega
set_option maxRecDepth 100000 in
set_option maxHeartbeats 1600000 in
theorem Bits_any (v : Value) (a : Nat) (w : World) (ha : Small a) (h : Nt w v a) : Calls Try.prog 72 #[v] w (BitsPost a w) := by
  have A := Lib.hid h
  have la := ha.dg32
  have la2 := ha.dg16
  have HA := Lib.hid (dg_lt_pow (B := 65536) (by omega) a)
  clear h ha
  go_enter Try.func72, Try.ntmps72
  go_wp2_with fail
  refine (half_any _ a w (by omega) A.out).mono ?_
  rintro e w1 ⟨⟨v1, rfl, hd1⟩, hb1⟩
  have D1 := Lib.hid hd1
  have B1 := Lib.hid hb1
  obtain ⟨p1, c1, rfl⟩ := hd1.len
  clear hd1 hb1
  obtain ⟨n, hn⟩ : ∃ n, n = (dg 65536 a).length := ⟨_, rfl⟩
  rw [← hn] at la2 HA D1 ⊢
  clear hn
  have E0 : Hid (a / 2 ^ (16 * n) = 0) := Lib.hid (by
    have h := HA.out
    rw [show (65536 : Nat) = 2 ^ 16 by decide, ← Nat.pow_mul] at h
    exact Nat.div_eq_of_lt h)
  clear HA
  go_wp2_with fail
  go_loop [4] (fun i => ∃ k : Nat, k ≤ 16 * n ∧ i = .int .i64 ((k : Int) - 1) ∧ a / 2 ^ k = 0) (fun i => (intOf i + 1).toNat)
  case atStart => exact ⟨16 * n, by omega, congrArg (fun z => Value.int .i64 z) (by omega), E0.out⟩
  case round =>
    obtain ⟨k, hk, rfl, he⟩ := hrel
    have E := Lib.hid he
    clear he
    cases k with
    | zero =>
      go_wp2_with fail
      go_ret
      exact ⟨0, rfl, by have := E.out; simp at this; simp [this], B1.out⟩
    | succ k =>
      have hk2 : (((k + 1 : Nat) : Int) - 1) = (k : Int) := by omega
      rw [hk2]
      clear hk2
      have P1 := bit_any _ a k w1 (by omega) D1.out
      have HS := Lib.hid (half_step E.out)
      obtain ⟨x, hx⟩ : ∃ x, x = a / 2 ^ k % 2 := ⟨_, rfl⟩
      rw [← hx] at P1 HS
      have P1 := Lib.hid P1
      clear hx
      go_wp2_with fail
      refine P1.out.mono ?_
      rintro e w' ⟨rfl, rfl⟩
      by_cases h1 : x = 1
      · have hne := Lib.hid (HS.out.1 h1)
        subst h1
        go_wp2_with fail
        go_ret
        exact ⟨(k : Int) + 1, rfl, ⟨by omega, fun h => absurd h hne.out⟩, B1.out⟩
      · have h2 := Lib.hid (HS.out.2 h1)
        have h3 : ((x : Int) == 1) = false := by simp; omega
        go_wp2_with fail
        go_round
        case rel => exact ⟨k, by omega, by go_num, h2.out⟩
        case measure => (first | (simp [intOf]; done) | (simp [intOf]; omega) | (simp only [intOf]; omega))
end Go.Proofs.Ythglgempbdaikaa
