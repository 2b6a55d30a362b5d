/- Contracts of the reference's numbers: small, Of, bit. -/
import Derived.Test.YthglgempbdaikaaNum4
import Derived.Test.YthglgempbdaikaaNum5
namespace Go.Proofs.Ythglgempbdaikaa
open Go.RowKit

theorem Dg.cell {w : World} {v : Value} {a : Nat} (h : Dg w v a) : ∃ p cap, v = .slice p (dg 65536 a).length cap ∧ ∀ j, j < (dg 65536 a).length → ∃ g off, p = some ⟨g, off, none⟩ ∧ w.cell? ⟨g, off + j, none⟩ = some (.int .u64 (a / 65536 ^ j % 65536 : Nat)) := by
  obtain ⟨p, cap, rfl, hl, hc⟩ := h.1
  refine ⟨p, cap, rfl, fun j hj => ?_⟩
  obtain ⟨g, off, hp, hcc⟩ := hc (by omega)
  have this : w.cell? ⟨g, off + j, none⟩ = some (.int .u64 ((dg 65536 a).getD j 0 : Nat)) := hcc j hj
  rw [dg_getD (by omega)] at this
  exact ⟨g, off, hp, this⟩
theorem up_digit (a k : Nat) : a / 65536 ^ (k + 1) * 65536 + a / 65536 ^ k % 65536 = a / 65536 ^ k := by
  rw [Nat.pow_succ, ← Nat.div_div_eq_div_mul]
  have := Nat.mod_add_div (a / 65536 ^ k) 65536
  omega
theorem small_mul {a k x : Nat} (h : Small a) (hx : x = a / 65536 ^ k) : IntKind.u64.wrap (x : Int) = (x : Int) := by
  have : x ≤ a := by rw [hx]; exact Nat.div_le_self _ _
  unfold Small M64 at h
  exact IntWalk.u64_in _ (by omega)
set_option maxRecDepth 100000 in
set_option maxHeartbeats 1600000 in
theorem small_any (v : Value) (a : Nat) (w : World) (ha : Small a) (h : Dg w v a) : Calls Try.prog 97 #[v] w fun e w' => e = .returned (.int .u64 a) ∧ w = w' := by
  obtain ⟨p, cap, rfl, hc⟩ := h.cell
  have la := ha.dg16
  have la2 := dg_lt_pow (B := 65536) (by omega) a
  obtain ⟨n, hn⟩ : ∃ n, n = (dg 65536 a).length := ⟨_, rfl⟩
  rw [← hn] at la la2 hc ⊢
  have C := Lib.hid hc
  have HA := Lib.hid ha
  have E0 : Hid (a / 65536 ^ n = 0) := Lib.hid (Nat.div_eq_of_lt la2)
  clear ha h hc hn la2
  go_enter Try.func97, Try.ntmps97
  go_wp2_with fail
  go_loop [3, 4] (fun x i => ∃ k : Nat, k ≤ n ∧ i = .int .i64 ((k : Int) - 1) ∧ x = .int .u64 (a / 65536 ^ k : Nat)) (fun _ i => (intOf i + 1).toNat)
  case atStart => exact ⟨n, by omega, rfl, by rw [E0.out]; rfl⟩
  case round =>
    obtain ⟨k, hk, rfl, rfl⟩ := hrel
    cases k with
    | zero =>
      go_wp2_with fail
      go_ret
      exact ⟨by simp, rfl⟩
    | succ k =>
      obtain ⟨g, off, rfl, c0⟩ := C.out k (by omega)
      have hk2 : (((k + 1 : Nat) : Int) - 1) = (k : Int) := by omega
      rw [hk2]
      clear hk2
      have hu := up_digit a k
      obtain ⟨y, hy⟩ : ∃ y, y = a / 65536 ^ k := ⟨_, rfl⟩
      have hs := small_mul HA.out hy
      obtain ⟨x, hx⟩ : ∃ x, x = a / 65536 ^ (k + 1) := ⟨_, rfl⟩
      rw [← hx, ← hy] at hu
      rw [← hy] at c0
      obtain ⟨d, hd⟩ : ∃ d, d = y % 65536 := ⟨_, rfl⟩
      rw [← hd] at hu c0
      have hs2 : IntKind.u64.wrap ((x : Int) * 65536) = (x : Int) * 65536 := by
        unfold Small M64 at HA
        have h1 := HA.out
        have : y ≤ a := by rw [hy]; exact Nat.div_le_self _ _
        exact IntWalk.u64_in _ (by omega)
      have hs3 : IntKind.u64.wrap ((x : Int) * 65536 + (d : Int)) = (y : Int) := by
        rw [show (x : Int) * 65536 + (d : Int) = (y : Int) by omega]; exact hs
      have HY := Lib.hid hy
      rw [← hx]
      clear hu hd hx hy hs
      go_wp2_with fail
      go_round
      case rel => exact ⟨k, by omega, by go_num, by rw [HY.out]⟩
      case measure => (first | (simp [intOf]; done) | (simp [intOf]; omega) | (simp only [intOf]; omega))
theorem rd_new4 (w : World) (x0 x1 x2 x3 : Int) (h0 : 0 ≤ x0) (h1 : 0 ≤ x1) (h2 : 0 ≤ x2) (h3 : 0 ≤ x3) :
    Rd .u64 (w.alloc (.cells #[.int .u64 x0, .int .u64 x1, .int .u64 x2, .int .u64 x3] 137)) (.slice (some ⟨w.heap.size, 0, none⟩) 4 4) [x0.toNat, x1.toNat, x2.toNat, x3.toNat] := by
  refine ⟨_, _, rfl, by simp, fun _ => ⟨_, _, rfl, fun j hj => ?_⟩⟩
  rw [World.cell?_alloc_new]
  have h4 : j = 0 ∨ j = 1 ∨ j = 2 ∨ j = 3 := by simp at hj; omega
  rcases h4 with rfl | rfl | rfl | rfl <;> simp <;> omega
theorem of_val (n : Int) (_h0 : 0 ≤ n) (h1 : n ≤ 18446744073709551615) : val 65536 [(n % 65536).toNat, (n / 65536 % 65536).toNat, (n / 65536 / 65536 % 65536).toNat, (n / 65536 / 65536 / 65536).toNat] = n.toNat ∧
    ∀ x ∈ [(n % 65536).toNat, (n / 65536 % 65536).toNat, (n / 65536 / 65536 % 65536).toNat, (n / 65536 / 65536 / 65536).toNat], x < 65536 := by
  constructor
  · simp only [val]; omega
  · intro x hx; simp at hx; omega
def U64 : Int := 18446744073709551615
set_option maxRecDepth 100000 in
set_option maxHeartbeats 1600000 in
theorem Of_any (n : Int) (w : World) (h0 : 0 ≤ n) (h1 : n ≤ U64) : Calls Try.prog 78 #[.int .u64 n] w fun e w' => (∃ v', e = .returned v' ∧ Nt w' v' n.toNat) ∧ Below w.heap.size w w' := by
  have V := Lib.hid (of_val n h0 (by unfold U64 at h1; exact h1))
  have r1 : 0 ≤ n / 65536 := by omega
  have r2 : 0 ≤ n / 65536 / 65536 := by omega
  unfold U64 at h1
  have t1 : IntKind.u64.wrap (n.tdiv 65536) = n / 65536 := by rw [Int.tdiv_eq_ediv_of_nonneg h0, IntWalk.u64_in _ (by omega)]
  have t2 : IntKind.u64.wrap ((n / 65536).tdiv 65536) = n / 65536 / 65536 := by rw [Int.tdiv_eq_ediv_of_nonneg r1, IntWalk.u64_in _ (by omega)]
  have t3 : IntKind.u64.wrap ((n / 65536 / 65536).tdiv 65536) = n / 65536 / 65536 / 65536 := by rw [Int.tdiv_eq_ediv_of_nonneg r2, IntWalk.u64_in _ (by omega)]
  have t4 : (n / 65536).tmod 65536 = n / 65536 % 65536 := Int.tmod_eq_emod_of_nonneg r1
  have t5 : (n / 65536 / 65536).tmod 65536 = n / 65536 / 65536 % 65536 := Int.tmod_eq_emod_of_nonneg r2
  clear h1
  go_enter Try.func78, Try.ntmps78
  go_wp2_with fail
  refine (words_any _ _ _ V.out.2 (by simp) (rd_new4 w _ _ _ _ (by omega) (by omega) (by omega) (by omega)) ⟨_, _, _, rfl, by omega⟩).mono ?_
  rintro e w1 ⟨⟨v1, rfl, hd1⟩, hb1⟩
  rw [V.out.1] at hd1
  have D1 := Lib.hid hd1
  have B1 := Lib.hid (((Below.refl _ w).alloc (Nat.le_refl _) _).trans (hb1.mono (by simp)))
  clear hd1 hb1
  go_wp2_with fail
  go_ret
  exact ⟨⟨_, rfl, D1.out⟩, B1.out⟩
end Go.Proofs.Ythglgempbdaikaa
