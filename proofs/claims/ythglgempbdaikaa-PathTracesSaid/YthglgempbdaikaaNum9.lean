/- Contracts of the reference's numbers: twice, Power. -/
import Derived.Test.YthglgempbdaikaaNum6
namespace Go.Proofs.Ythglgempbdaikaa
open Go.RowKit

set_option maxRecDepth 100000 in
set_option maxHeartbeats 1600000 in
theorem twice_any (v : Value) (a : Nat) (w : World) (ha : Small a) (h : Dg w v a) :
    Calls Try.prog 106 #[v, .int .u64 0] w fun e w' => (∃ v', e = .returned v' ∧ Dg w' v' (a + a)) ∧ Below w.heap.size w w' := by
  obtain ⟨i0, hi, hz0, hz1, hz2⟩ := info_parts Try.info137
  have D1 := Lib.hid h
  obtain ⟨p1, c1, rfl⟩ := h.len
  have la2 := ha.dg16
  have HA := Lib.hid (dg_lt_pow (B := 65536) (by omega) a)
  obtain ⟨n1, hn1⟩ : ∃ n, n = (dg 65536 a).length := ⟨_, rfl⟩
  rw [← hn1] at HA D1 la2 ⊢
  clear h ha hn1
  go_enter Try.func106, Try.ntmps106
  go_wp2_with fail
  go_loopw [5, 6, 7] (fun d c i wr => ∃ (k c' : Nat) (l : List Nat), k ≤ n1 + 1 ∧ i = .int .i64 k ∧ c = .int .u64 c' ∧ SumTo a a k c' l ∧ Owns w wr d l) (fun _ _ i _ => n1 + 1 - (intOf i).toNat)
  case atStart => exact ⟨0, 0, [], by omega, rfl, rfl, SumTo.zero a a, Owns.zero _⟩
  case round =>
    obtain ⟨k, c, l, hk, rfl, rfl, hs, ho⟩ := hrel
    have S := Lib.hid hs
    have O := Lib.hid ho
    have hc1 : c ≤ 1 := hs.1
    have hlk := Lib.hid hs.2.1
    clear hs ho
    by_cases hlt : k < n1 + 1
    · have SN := S.out.next
      have P1 := at_dg _ a k wr (by omega) (D1.out.later O.out.2)
      obtain ⟨x, hx⟩ : ∃ x, x = a / 65536 ^ k % 65536 := ⟨_, rfl⟩
      have hx1 : x < 65536 := by omega
      rw [← hx] at SN
      rw [← hx] at P1
      have SN := Lib.hid SN
      have P1 := Lib.hid P1
      clear hx
      go_wp2_with fail
      refine P1.out.mono ?_
      rintro e w' ⟨rfl, rfl⟩
      have HO := O.out.1
      go_wp2_with (at_builtin; go_loud (refine wpList_app (w0 := wr) rfl (.tmp 23) (.tmp 26) 141 rfl w.heap.size 137 i0 (.int .u64 0) 1 8 [.int .u64 ((2 * (x : Int) + (c : Int)) % 65536)] Try.underlying141 hi hz0 hz1 hz2 rfl rfl (by decide) _ _ _ rfl HO rfl (by simp [Value.oneCell']) ?c1 ?c2 O.out.2.size ?_))
      case c1 => rw [hlk.out]; unfold maxLen; omega
      case c2 => rw [hlk.out]; omega
      intro g' cap' w5 hown5 hb5
      have O2 := Lib.hid (show Owns w w5 (.slice (some ⟨g', 0, none⟩) (l.length + 1) cap') (l ++ [(x + x + c) % 65536]) from ⟨by
        rw [ints_put l .u64 _ ((x + x + c) % 65536) (by omega)] at hown5
        simpa using hown5, O.out.2.trans hb5⟩)
      clear hown5 hb5 HO
      go_wp2_with fail
      refine ⟨⟨k + 1, (x + x + c) / 65536, _, by omega, by go_num, ?_, SN.out, O2.out⟩, by (first | (simp [intOf]; done) | (simp [intOf]; omega) | (simp only [intOf]; omega))⟩
      exact congrArg (fun z => Value.int .u64 z) (by omega)
    · obtain rfl : k = n1 + 1 := by omega
      have hv := add_end (B := 65536) (by omega) HA.out HA.out S.out.2.2.2
      have HV := Lib.hid hv
      clear hv
      go_wp2_with fail
      refine (cut_any _ l wr S.out.2.2.1 (Rd.of_owns O.out.1 (by rw [hlk.out]; omega)) (own_cap O.out.1)).mono ?_
      rintro e w6 ⟨⟨v6, rfl, h6⟩, rfl⟩
      rw [HV.out] at h6
      have H6 := Lib.hid h6
      clear h6
      go_wp2_with fail
      go_ret
      exact ⟨⟨_, rfl, H6.out⟩, O.out.2⟩
theorem pow2_small {n : Nat} (h : n ≤ 63) : Small (2 ^ n) := Small.of (Nat.le_trans (Nat.pow_le_pow_right (by omega) h) (by omega))
theorem pow2_next (n : Nat) : 2 ^ n + 2 ^ n = 2 ^ (n + 1) := by rw [Nat.pow_succ]; omega
set_option maxRecDepth 100000 in
set_option maxHeartbeats 1600000 in
theorem Power_any (n : Nat) (w : World) (hn : n ≤ 63) : Calls Try.prog 105 #[.int .i64 n] w fun e w' => (∃ v', e = .returned v' ∧ Nt w' v' (2 ^ n)) ∧ Below w.heap.size w w' := by
  go_enter Try.func105, Try.ntmps105
  go_wp2_with fail
  have h0 : Rd .u64 (w.alloc (.cells #[.int .u64 1] 137)) (.slice (some ⟨w.heap.size, 0, none⟩) 1 1) [1] := ⟨_, _, rfl, by simp, fun _ => ⟨_, _, rfl, fun j hj => by
    have : j = 0 := by simp at hj; omega
    subst this
    rw [World.cell?_alloc_new]; rfl⟩⟩
  have h1 : Dg (w.alloc (.cells #[.int .u64 1] 137)) (.slice (some ⟨w.heap.size, 0, none⟩) 1 1) (2 ^ 0) := ⟨by rw [show dg 65536 (2 ^ 0) = [1] by decide]; exact h0, ⟨_, _, _, rfl, by omega⟩⟩
  clear h0
  have D0 := Lib.hid h1
  clear h1
  go_loopw [3, 4] (fun d i wr => ∃ k : Nat, k ≤ n ∧ i = .int .i64 k ∧ Dg wr d (2 ^ k) ∧ Below w.heap.size w wr) (fun _ i _ => n - (intOf i).toNat)
  case atStart => exact ⟨0, by omega, rfl, D0.out, (Below.refl _ _).alloc (Nat.le_refl _) _⟩
  case round =>
    obtain ⟨k, hk, rfl, hd, hb⟩ := hrel
    have D := Lib.hid hd
    have B := Lib.hid hb
    clear hd hb
    by_cases hlt : k < n
    · go_wp2_with fail
      refine (twice_any _ _ wr (pow2_small (by omega)) D.out).mono ?_
      rintro e w1 ⟨⟨v1, rfl, h1⟩, hb1⟩
      rw [pow2_next] at h1
      have H1 := Lib.hid h1
      have B1 := Lib.hid (B.out.trans (hb1.mono B.out.size))
      clear h1 hb1
      go_wp2_with fail
      refine ⟨⟨k + 1, by omega, by go_num, H1.out, B1.out⟩, by (first | (simp [intOf]; done) | (simp [intOf]; omega) | (simp only [intOf]; omega))⟩
    · obtain rfl : k = n := by omega
      go_wp2_with fail
      refine (words_any _ (dg 65536 (2 ^ k)) wr (dg_lt (by omega) _) ?sh D.out.1 D.out.2).mono ?_
      case sh => have := (pow2_small hn).dg16; omega
      rintro e w4 ⟨⟨v4, rfl, h4⟩, hb4⟩
      rw [val_dg (by omega)] at h4
      have H4 := Lib.hid h4
      have B4 := Lib.hid (B.out.trans (hb4.mono B.out.size))
      clear h4 hb4
      go_wp2_with fail
      go_ret
      exact ⟨⟨_, rfl, H4.out⟩, B4.out⟩
end Go.Proofs.Ythglgempbdaikaa
