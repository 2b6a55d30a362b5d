/- Contracts of the reference's roots: below. -/
import Derived.Test.YthglgempbdaikaaNum12
namespace Go.Proofs.Ythglgempbdaikaa
open Go.RowKit

theorem wabove_eq {a b i : Nat} (h : a / 4294967296 ^ (i + 1) = b / 4294967296 ^ (i + 1)) (h1 : a / 4294967296 ^ i % 4294967296 = b / 4294967296 ^ i % 4294967296) : a / 4294967296 ^ i = b / 4294967296 ^ i := by
  rw [Nat.pow_succ, ← Nat.div_div_eq_div_mul, ← Nat.div_div_eq_div_mul] at h
  have e1 := Nat.mod_add_div (a / 4294967296 ^ i) 4294967296
  have e2 := Nat.mod_add_div (b / 4294967296 ^ i) 4294967296
  omega
theorem wabove_lt {a b i : Nat} (h : a / 4294967296 ^ (i + 1) = b / 4294967296 ^ (i + 1)) (h1 : a / 4294967296 ^ i % 4294967296 < b / 4294967296 ^ i % 4294967296) : a < b := by
  rw [Nat.pow_succ, ← Nat.div_div_eq_div_mul, ← Nat.div_div_eq_div_mul] at h
  have e1 := Nat.mod_add_div (a / 4294967296 ^ i) 4294967296
  have e2 := Nat.mod_add_div (b / 4294967296 ^ i) 4294967296
  rcases Nat.lt_or_ge a b with hl | hl
  · exact hl
  · have := Nat.div_le_div_right (c := 4294967296 ^ i) hl
    omega
set_option maxRecDepth 100000 in
set_option maxHeartbeats 1600000 in
theorem below_any (v u : Value) (a b : Nat) (w : World) (ha : Small a) (hb : Small b) (h : Ug w v a) (h2 : Ug w u b) :
    Calls Try.prog 103 #[v, u] w fun e w' => e = .returned (.bool (decide (a < b))) ∧ Below w.heap.size w w' := by
  obtain ⟨p, cap, rfl, hc⟩ := rd_cells (by omega) h.1
  obtain ⟨p2, cap2, rfl, hc2⟩ := rd_cells (by omega) h2.1
  have la := ha.dg32
  have lb := hb.dg32
  have la2 := Lib.hid (dg_lt_pow (B := 4294967296) (by omega) a)
  have lb2 := Lib.hid (dg_lt_pow (B := 4294967296) (by omega) b)
  have m1 := Lib.hid (fun h => dg_len_mono (B := 4294967296) (by omega) (a := a) (b := b) h)
  have m2 := Lib.hid (fun h => dg_len_mono (B := 4294967296) (by omega) (a := b) (b := a) h)
  obtain ⟨n, hn⟩ : ∃ n, n = (dg 4294967296 a).length := ⟨_, rfl⟩
  obtain ⟨m, hm⟩ : ∃ m, m = (dg 4294967296 b).length := ⟨_, rfl⟩
  rw [← hn] at hc la la2 m1 m2 ⊢
  rw [← hm] at hc2 lb lb2 m1 m2 ⊢
  have C := Lib.hid hc
  have C2 := Lib.hid hc2
  clear hn hm hc hc2 h h2 ha hb
  by_cases hne : n = m
  · subst hne
    have E0 : Hid (a / 4294967296 ^ n = b / 4294967296 ^ n) := Lib.hid (by rw [Nat.div_eq_of_lt la2.out, Nat.div_eq_of_lt lb2.out])
    clear m1 m2 la2 lb2
    go_enter Try.func103, Try.ntmps103
    go_wp2_with fail
    go_loopw [5] (fun i wr => ∃ k : Nat, k ≤ n ∧ i = .int .i64 ((k : Int) - 1) ∧ a / 4294967296 ^ k = b / 4294967296 ^ k ∧ Below w.heap.size w wr) (fun i _ => (intOf i + 1).toNat)
    case atStart => exact ⟨n, by omega, rfl, E0.out, Below.refl _ _⟩
    case round =>
      obtain ⟨k, hk, rfl, he, hb⟩ := hrel
      have E := Lib.hid he
      have B := Lib.hid hb
      clear he hb
      cases k with
      | zero =>
        have hz : Hid (decide (a < b) = false) := Lib.hid (decide_eq_false (by have := E.out; simp at this; omega))
        go_wp2_with fail
        go_ret
        exact ⟨by rw [hz.out]; rfl, B.out⟩
      | succ k =>
        obtain ⟨g, off, rfl, hcc⟩ := C.out (by omega)
        obtain ⟨g2, off2, rfl, hcc2⟩ := C2.out (by omega)
        have c0 := cell_later B.out (hcc k (by omega))
        have d0 := cell_later B.out (hcc2 k (by omega))
        obtain ⟨x, hx⟩ : ∃ x, x = a / 4294967296 ^ k % 4294967296 := ⟨_, rfl⟩
        obtain ⟨y, hy⟩ : ∃ y, y = b / 4294967296 ^ k % 4294967296 := ⟨_, rfl⟩
        rw [← hx] at c0
        rw [← hy] at d0
        have X := Lib.hid hx
        have Y := Lib.hid hy
        have hk2 : (((k + 1 : Nat) : Int) - 1) = (k : Int) := by omega
        rw [hk2]
        have hk0 : (0 : Int) ≤ (k : Int) := by omega
        have hk3 : (k : Int) < (n : Int) := by omega
        clear hx hy hcc hcc2 hk2
        by_cases hxy : x = y
        · have h1 : ((x : Int) != (y : Int)) = false := by simp; omega
          subst hxy
          go_wp2_with fail
          go_quiet (fail)
          go_wp2_with fail
          refine ⟨⟨k, by omega, by go_num, wabove_eq E.out (by rw [← X.out, ← Y.out]), below_drewN B.out _⟩, by (first | (simp [intOf]; done) | (simp [intOf]; omega) | (simp only [intOf]; omega))⟩
        · have h1 : ((x : Int) != (y : Int)) = true := by simp; omega
          have hr : Hid (decide (a < b) = decide (x < y)) := Lib.hid (by
            rcases Nat.lt_or_ge x y with hl | hl
            · rw [decide_eq_true (wabove_lt E.out (by rw [← X.out, ← Y.out]; exact hl)), decide_eq_true (by omega)]
            · have := wabove_lt E.out.symm (by rw [← X.out, ← Y.out]; omega)
              rw [decide_eq_false (by omega), decide_eq_false (by omega)])
          go_wp2_with fail
          go_quiet (fail)
          go_wp2_with fail
          go_quiet (fail)
          go_wp2_with fail
          go_ret
          exact ⟨by rw [hr.out]; rfl, below_drewN (below_drewN B.out _) _⟩
  · have h1 : ((n : Int) != (m : Int)) = true := by simp; omega
    have hr : Hid (decide (a < b) = decide (n < m)) := Lib.hid (by
      by_cases hl : a < b
      · have := m1.out (Nat.le_of_lt hl)
        rw [decide_eq_true hl, decide_eq_true (by omega)]
      · have := m2.out (by omega)
        rw [decide_eq_false hl, decide_eq_false (by omega)])
    go_enter Try.func103, Try.ntmps103
    go_wp2_with fail
    go_ret
    exact ⟨by rw [hr.out]; rfl, Below.refl _ _⟩
end Go.Proofs.Ythglgempbdaikaa
