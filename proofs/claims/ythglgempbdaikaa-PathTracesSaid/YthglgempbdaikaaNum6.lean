/- Contracts of the reference's numbers: Add. -/
import Derived.Test.YthglgempbdaikaaNum4
import Derived.Test.YthglgempbdaikaaNum5
namespace Go.Proofs.Ythglgempbdaikaa
open Go.RowKit

theorem at_dg (v : Value) (a i : Nat) (w : World) (hi : i ≤ 281474976710656) (h : Dg w v a) : Calls Try.prog 88 #[v, .int .i64 i] w fun e w' => e = .returned (.int .u64 (a / 65536 ^ i % 65536 : Nat)) ∧ w = w' := by
  have := at_any v (dg 65536 a) i w hi h.1
  rwa [dg_getD (by omega)] at this
theorem max_run (n m : Nat) : ∃ M : Nat, n ≤ M ∧ m ≤ M ∧ (M = n ∨ M = m) ∧ ∀ W, (Builtin.max_ #[3, 3] 3 #[.int .i64 n, .int .i64 m]).run Try.prog W = .ok (.int .i64 M) W := by
  by_cases hlm : n < m
  · exact ⟨m, by omega, by omega, .inr rfl, fun W => by simp [Builtin.max_, Builtin.max2]; omega⟩
  · exact ⟨n, by omega, by omega, .inl rfl, fun W => by simp [Builtin.max_, Builtin.max2]; omega⟩
theorem ints_put (l : List Nat) (k : IntKind) (z : Int) (x : Nat) (h : z = (x : Int)) : ints k l ++ [.int k z] = ints k (l ++ [x]) := by subst h; exact ints_snoc k l x
/-- a sum, as far as k digits -/
def SumTo (a b k c : Nat) (l : List Nat) : Prop := c ≤ 1 ∧ l.length = k ∧ (∀ x ∈ l, x < 65536) ∧ val 65536 l + 65536 ^ k * c = a % 65536 ^ k + b % 65536 ^ k
theorem SumTo.next {a b k c : Nat} {l : List Nat} (h : SumTo a b k c l) : SumTo a b (k + 1) ((a / 65536 ^ k % 65536 + b / 65536 ^ k % 65536 + c) / 65536) (l ++ [(a / 65536 ^ k % 65536 + b / 65536 ^ k % 65536 + c) % 65536]) := by
  obtain ⟨hc, hl, hd, he⟩ := h
  refine ⟨by omega, by simp [hl], ?_, add_next hl he⟩
  intro x hx
  rcases List.mem_append.1 hx with hx | hx
  · exact hd x hx
  · simp at hx; omega
theorem SumTo.zero (a b : Nat) : SumTo a b 0 0 [] := ⟨by omega, rfl, (fun x hx => by cases hx), by simp [val, Nat.mod_one]⟩
def Owns (w wr : World) (v : Value) (l : List Nat) : Prop := wr.ownsRow w.heap.size 137 1 v l.length (ints .u64 l) ∧ Below w.heap.size w wr
theorem Owns.zero (w : World) : Owns w w (.slice none 0 0) [] := ⟨World.ownsRow_nil _ _ _ _, Below.refl _ _⟩
set_option maxRecDepth 100000 in
set_option maxHeartbeats 1600000 in
theorem Add_any (v u : Value) (a b : Nat) (w : World) (ha : Small a) (hb : Small b) (h : Nt w v a) (h2 : Nt w u b) :
    Calls Try.prog 77 #[v, u] w fun e w' => (∃ v', e = .returned v' ∧ Nt w' v' (a + b)) ∧ Below w.heap.size w w' := by
  obtain ⟨i0, hi, hz0, hz1, hz2⟩ := info_parts Try.info137
  have A := Lib.hid h
  have B := Lib.hid h2
  have la := ha.dg32
  have lb := hb.dg32
  have la2 := ha.dg16
  have lb2 := hb.dg16
  have HA := Lib.hid (dg_lt_pow (B := 65536) (by omega) a)
  have HB := Lib.hid (dg_lt_pow (B := 65536) (by omega) b)
  clear h h2 ha hb
  go_enter Try.func77, Try.ntmps77
  go_wp2_with fail
  refine (half_any _ a w (by omega) A.out).mono ?_
  rintro e w1 ⟨⟨v1, rfl, hd1⟩, hb1⟩
  have D1 := Lib.hid hd1
  have B1 := Lib.hid hb1
  clear hd1 hb1
  go_wp2_with fail
  refine (half_any _ b w1 (by omega) (B.out.later B1.out)).mono ?_
  rintro e w2 ⟨⟨v2, rfl, hd2⟩, hb2⟩
  have D1 := Lib.hid (D1.out.later hb2)
  have D2 := Lib.hid hd2
  have B2 := Lib.hid (B1.out.trans (hb2.mono B1.out.size))
  obtain ⟨p1, c1, rfl⟩ := D1.out.len
  obtain ⟨p2, c2, rfl⟩ := D2.out.len
  clear hd2 hb2 B1 A B la lb
  obtain ⟨n1, hn1⟩ : ∃ n, n = (dg 65536 a).length := ⟨_, rfl⟩
  obtain ⟨n2, hn2⟩ : ∃ n, n = (dg 65536 b).length := ⟨_, rfl⟩
  rw [← hn1] at HA D1 la2 ⊢
  rw [← hn2] at HB D2 lb2 ⊢
  clear hn1 hn2
  obtain ⟨M, hM1, hM2, hM3, hrun⟩ := max_run n1 n2
  have E1 : Hid (a < 65536 ^ M) := Lib.hid (Nat.lt_of_lt_of_le HA.out (Nat.pow_le_pow_right (by omega) hM1))
  have E2 : Hid (b < 65536 ^ M) := Lib.hid (Nat.lt_of_lt_of_le HB.out (Nat.pow_le_pow_right (by omega) hM2))
  have hM4 : M ≤ 4 := by omega
  clear HA HB hM1 hM2 hM3
  go_wp2_with fail
  go_loopw [7, 8, 9] (fun d c i wr => ∃ (k c' : Nat) (l : List Nat), k ≤ M + 1 ∧ i = .int .i64 k ∧ c = .int .u64 c' ∧ SumTo a b k c' l ∧ Owns w2 wr d l) (fun _ _ i _ => M + 1 - (intOf i).toNat)
  case atStart => exact ⟨0, 0, [], by omega, rfl, rfl, SumTo.zero a b, Owns.zero _⟩
  case round =>
    obtain ⟨k, c, l, hk, rfl, rfl, hs, ho⟩ := hrel
    have S := Lib.hid hs
    have O := Lib.hid ho
    have hc1 : c ≤ 1 := hs.1
    have hlk := Lib.hid hs.2.1
    clear hs ho
    by_cases hlt : k < M + 1
    · have SN := S.out.next
      have P1 := at_dg _ a k wr (by omega) (D1.out.later O.out.2)
      have P2 := at_dg _ b k wr (by omega) (D2.out.later O.out.2)
      obtain ⟨x, hx⟩ : ∃ x, x = a / 65536 ^ k % 65536 := ⟨_, rfl⟩
      obtain ⟨y, hy⟩ : ∃ y, y = b / 65536 ^ k % 65536 := ⟨_, rfl⟩
      have hx1 : x < 65536 := by omega
      have hy1 : y < 65536 := by omega
      rw [← hx, ← hy] at SN
      rw [← hx] at P1
      rw [← hy] at P2
      have SN := Lib.hid SN
      have P1 := Lib.hid P1
      have P2 := Lib.hid P2
      clear hx hy
      go_wp2_with fail
      clear hrun
      refine P1.out.mono ?_
      rintro e w' ⟨rfl, rfl⟩
      go_wp2_with fail
      refine P2.out.mono ?_
      rintro e w' ⟨rfl, rfl⟩
      have HO := O.out.1
      go_wp2_with (at_builtin; go_loud (refine wpList_app (w0 := wr) rfl (.tmp 34) (.tmp 37) 141 rfl w2.heap.size 137 i0 (.int .u64 0) 1 8 [.int .u64 (((x : Int) + (y : Int) + (c : Int)) % 65536)] Try.underlying141 hi hz0 hz1 hz2 rfl rfl (by decide) _ _ _ rfl HO rfl (by simp [Value.oneCell']) ?c1 ?c2 O.out.2.size ?_))
      case c1 => rw [hlk.out]; unfold maxLen; omega
      case c2 => rw [hlk.out]; omega
      intro g' cap' w5 hown5 hb5
      have O2 := Lib.hid (show Owns w2 w5 (.slice (some ⟨g', 0, none⟩) (l.length + 1) cap') (l ++ [(x + y + c) % 65536]) from ⟨by
        rw [ints_put l .u64 _ ((x + y + c) % 65536) (by omega)] at hown5
        simpa using hown5, O.out.2.trans hb5⟩)
      clear hown5 hb5 HO
      go_wp2_with fail
      refine ⟨⟨k + 1, (x + y + c) / 65536, _, by omega, by go_num, by go_num, SN.out, O2.out⟩, by (first | (simp [intOf]; done) | (simp [intOf]; omega) | (simp only [intOf]; omega))⟩
    · obtain rfl : k = M + 1 := by omega
      have hv := add_end (B := 65536) (by omega) E1.out E2.out S.out.2.2.2
      have HV := Lib.hid hv
      clear hv
      go_wp2_with fail
      clear hrun
      refine (words_any _ l wr S.out.2.2.1 (by rw [hlk.out]; omega) (Rd.of_owns O.out.1 (by rw [hlk.out]; omega)) (own_cap O.out.1)).mono ?_
      rintro e w6 ⟨⟨v6, rfl, h6⟩, hb6⟩
      rw [HV.out] at h6
      have H6 := Lib.hid h6
      have B6 := Lib.hid ((B2.out.trans (O.out.2.mono B2.out.size)).trans (hb6.mono (Nat.le_trans B2.out.size O.out.2.size)))
      clear h6 hb6
      go_wp2_with fail
      go_ret
      exact ⟨⟨_, rfl, H6.out⟩, B6.out⟩
end Go.Proofs.Ythglgempbdaikaa
