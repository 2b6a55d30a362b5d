/- Contracts of the reference's numbers: cmp, Cmp. -/
import Derived.Test.YthglgempbdaikaaNum3
import Derived.Test.YthglgempbdaikaaNumL
namespace Go.Proofs.Ythglgempbdaikaa
open Go.RowKit

theorem Nt.later {w w1 : World} {v : Value} {a : Nat} (h : Nt w v a) (hb : Below w.heap.size w w1) : Nt w1 v a := ⟨h.1.later hb, h.2⟩
theorem Dg.later {w w1 : World} {v : Value} {a : Nat} (h : Dg w v a) (hb : Below w.heap.size w w1) : Dg w1 v a := ⟨h.1.later hb, h.2⟩
theorem Dg.len {w : World} {v : Value} {a : Nat} (h : Dg w v a) : ∃ p cap, v = .slice p (dg 65536 a).length cap := by
  obtain ⟨p, cap, rfl, _⟩ := h.1
  exact ⟨p, cap, rfl⟩
/-- how two numbers stand -/
def cmpN (a b : Nat) : Int := if a < b then -1 else if b < a then 1 else 0
theorem cmpN_lt {a b : Nat} (h : a < b) : cmpN a b = -1 := if_pos h
theorem cmpN_gt {a b : Nat} (h : b < a) : cmpN a b = 1 := by unfold cmpN; rw [if_neg (by omega), if_pos h]
theorem cmpN_eq {a b : Nat} (h : a = b) : cmpN a b = 0 := by subst h; unfold cmpN; simp
theorem above_eq {a b i : Nat} (h : a / 65536 ^ (i + 1) = b / 65536 ^ (i + 1)) (h1 : a / 65536 ^ i % 65536 = b / 65536 ^ i % 65536) : a / 65536 ^ i = b / 65536 ^ i := by
  rw [Nat.pow_succ, ← Nat.div_div_eq_div_mul, ← Nat.div_div_eq_div_mul] at h
  have e1 := Nat.mod_add_div (a / 65536 ^ i) 65536
  have e2 := Nat.mod_add_div (b / 65536 ^ i) 65536
  omega
theorem above_lt {a b i : Nat} (h : a / 65536 ^ (i + 1) = b / 65536 ^ (i + 1)) (h1 : a / 65536 ^ i % 65536 < b / 65536 ^ i % 65536) : a < b := by
  rw [Nat.pow_succ, ← Nat.div_div_eq_div_mul, ← Nat.div_div_eq_div_mul] at h
  have e1 := Nat.mod_add_div (a / 65536 ^ i) 65536
  have e2 := Nat.mod_add_div (b / 65536 ^ i) 65536
  rcases Nat.lt_or_ge a b with hl | hl
  · exact hl
  · have := Nat.div_le_div_right (c := 65536 ^ i) hl
    omega
set_option maxRecDepth 100000 in
set_option maxHeartbeats 1600000 in
theorem cmp_any (v u : Value) (a b : Nat) (w : World) (ha : Small a) (hb : Small b) (h : Dg w v a) (h2 : Dg w u b) :
    Calls Try.prog 98 #[v, u] w fun e w' => e = .returned (.int .i64 (cmpN a b)) ∧ w = w' := by
  have A := Lib.hid h
  have B := Lib.hid h2
  obtain ⟨p, cap, rfl⟩ := h.len
  obtain ⟨p2, cap2, rfl⟩ := h2.len
  have la := ha.dg16
  have lb := hb.dg16
  have ga := dg_getD (B := 65536) (by omega) a
  have gb := dg_getD (B := 65536) (by omega) b
  have la2 := dg_lt_pow (B := 65536) (by omega) a
  have lb2 := dg_lt_pow (B := 65536) (by omega) b
  obtain ⟨l, hl⟩ : ∃ l, l = dg 65536 a := ⟨_, rfl⟩
  obtain ⟨m, hm⟩ : ∃ m, m = dg 65536 b := ⟨_, rfl⟩
  have AR : Hid (Rd .u64 w (.slice p l.length cap) l) := Lib.hid (by rw [hl]; exact A.out.1)
  have BR : Hid (Rd .u64 w (.slice p2 m.length cap2) m) := Lib.hid (by rw [hm]; exact B.out.1)
  rw [← hl] at la ga la2 ⊢
  rw [← hm] at lb gb lb2 ⊢
  have hmx : ∃ M : Nat, M ≤ 4 ∧ l.length ≤ M ∧ m.length ≤ M ∧ (Builtin.max_ #[3, 3] 3 #[.int .i64 l.length, .int .i64 m.length]).run Try.prog w = .ok (.int .i64 M) w := by
    by_cases hlm : l.length < m.length
    · exact ⟨m.length, lb, by omega, by omega, by simp [Builtin.max_, Builtin.max2]; omega⟩
    · exact ⟨l.length, la, by omega, by omega, by simp [Builtin.max_, Builtin.max2]; omega⟩
  obtain ⟨M, hM, hM1, hM2, hrun⟩ := hmx
  have E0 : Hid (a / 65536 ^ M = b / 65536 ^ M) := Lib.hid (by
    rw [Nat.div_eq_of_lt (Nat.lt_of_lt_of_le la2 (Nat.pow_le_pow_right (by omega) hM1)), Nat.div_eq_of_lt (Nat.lt_of_lt_of_le lb2 (Nat.pow_le_pow_right (by omega) hM2))])
  have GA := Lib.hid ga
  have GB := Lib.hid gb
  clear A B h h2 ha hb la lb ga gb la2 lb2 hl hm hM1 hM2
  go_enter Try.func98, Try.ntmps98
  go_wp2_with fail
  clear hrun
  go_loop [5] (fun i => ∃ k : Nat, k ≤ M ∧ i = .int .i64 ((k : Int) - 1) ∧ a / 65536 ^ k = b / 65536 ^ k) (fun i => (intOf i + 1).toNat)
  case atStart => exact ⟨M, by omega, rfl, E0.out⟩
  case round =>
    obtain ⟨k, hk, rfl, he⟩ := hrel
    have E := Lib.hid he
    clear he
    cases k with
    | zero =>
      have hz : cmpN a b = 0 := cmpN_eq (by simpa using E.out)
      have HZ := Lib.hid hz
      clear hz
      go_wp2_with fail
      go_ret
      exact ⟨congrArg (fun z => Ending.returned (Value.int .i64 z)) HZ.out.symm, rfl⟩
    | succ k =>
      obtain ⟨x, hx⟩ : ∃ x, x = l.getD k 0 := ⟨_, rfl⟩
      obtain ⟨y, hy⟩ : ∃ y, y = m.getD k 0 := ⟨_, rfl⟩
      have X : Hid (a / 65536 ^ k % 65536 = x) := Lib.hid (by rw [hx, GA.out])
      have Y : Hid (b / 65536 ^ k % 65536 = y) := Lib.hid (by rw [hy, GB.out])
      have hk2 : (((k + 1 : Nat) : Int) - 1) = (k : Int) := by omega
      rw [hk2]
      clear hk2
      have P1 := at_any (.slice p l.length cap) l k w (by omega) AR.out
      have P2 := at_any (.slice p2 m.length cap2) m k w (by omega) BR.out
      rw [← hx] at P1
      rw [← hy] at P2
      have Q1 := Lib.hid P1
      have Q2 := Lib.hid P2
      clear P1 P2 hx hy
      by_cases hlt : x < y
      · have hz : cmpN a b = -1 := cmpN_lt (above_lt E.out (by rw [X.out, Y.out]; exact hlt))
        have HZ := Lib.hid hz
        clear hz
        go_wp2_with fail
        refine Q1.out.mono ?_
        rintro e w' ⟨rfl, rfl⟩
        go_wp2_with fail
        refine Q2.out.mono ?_
        rintro e w' ⟨rfl, rfl⟩
        go_wp2_with fail
        go_ret
        exact ⟨congrArg (fun z => Ending.returned (Value.int .i64 z)) HZ.out.symm, rfl⟩
      · go_wp2_with fail
        refine Q1.out.mono ?_
        rintro e w' ⟨rfl, rfl⟩
        go_wp2_with fail
        refine Q2.out.mono ?_
        rintro e w' ⟨rfl, rfl⟩
        go_wp2_with fail
        refine Q1.out.mono ?_
        rintro e w' ⟨rfl, rfl⟩
        go_wp2_with fail
        refine Q2.out.mono ?_
        rintro e w' ⟨rfl, rfl⟩
        by_cases hgt : y < x
        · have hz : cmpN a b = 1 := cmpN_gt (above_lt E.out.symm (by rw [X.out, Y.out]; exact hgt))
          have HZ := Lib.hid hz
          clear hz
          go_wp2_with fail
          go_ret
          exact ⟨congrArg (fun z => Ending.returned (Value.int .i64 z)) HZ.out.symm, rfl⟩
        · go_wp2_with fail
          go_round
          case rel => exact ⟨k, by omega, by go_num, above_eq E.out (by rw [X.out, Y.out]; omega)⟩
          case measure => (first | (simp [intOf]; done) | (simp [intOf]; omega) | (simp only [intOf]; omega))
theorem Cmp_any (v u : Value) (a b : Nat) (w : World) (ha : Small a) (hb : Small b) (h : Nt w v a) (h2 : Nt w u b) :
    Calls Try.prog 92 #[v, u] w fun e w' => e = .returned (.int .i64 (cmpN a b)) ∧ Below w.heap.size w w' := by
  have A := Lib.hid h
  have B := Lib.hid h2
  have la := ha.dg32
  have lb := hb.dg32
  have HA := Lib.hid ha
  have HB := Lib.hid hb
  clear h h2 ha hb
  go_enter Try.func92, Try.ntmps92
  go_wp2_with fail
  refine (half_any _ a w (by omega) A.out).mono ?_
  rintro e w1 ⟨⟨v1, rfl, hd1⟩, hb1⟩
  have D1 := Lib.hid hd1
  have B1 := Lib.hid hb1
  clear hd1 hb1
  go_wp2_with fail
  refine (half_any _ b w1 (by omega) (B.out.later B1.out)).mono ?_
  rintro e w2 ⟨⟨v2, rfl, hd2⟩, hb2⟩
  have D2 := Lib.hid hd2
  have B2 := Lib.hid hb2
  clear hd2 hb2
  go_wp2_with fail
  refine (cmp_any _ _ a b w2 HA.out HB.out (D1.out.later B2.out) D2.out).mono ?_
  rintro e w3 ⟨rfl, rfl⟩
  go_wp2_with fail
  go_ret
  exact ⟨rfl, B1.out.trans (B2.out.mono B1.out.size)⟩
end Go.Proofs.Ythglgempbdaikaa
