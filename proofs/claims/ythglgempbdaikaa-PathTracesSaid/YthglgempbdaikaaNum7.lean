/- Contracts of the reference's numbers: sub, Sub. -/
import Derived.Test.YthglgempbdaikaaNum6
namespace Go.Proofs.Ythglgempbdaikaa
open Go.RowKit

/-- a difference, as far as k digits -/
def DifTo (a b k c : Nat) (l : List Nat) : Prop := c ≤ 1 ∧ l.length = k ∧ (∀ x ∈ l, x < 65536) ∧ val 65536 l + b % 65536 ^ k = a % 65536 ^ k + 65536 ^ k * c
theorem DifTo.next {a b k c : Nat} {l : List Nat} (h : DifTo a b k c l) : DifTo a b (k + 1) (1 - (65536 + a / 65536 ^ k % 65536 - b / 65536 ^ k % 65536 - c) / 65536) (l ++ [(65536 + a / 65536 ^ k % 65536 - b / 65536 ^ k % 65536 - c) % 65536]) := by
  obtain ⟨hc, hl, hd, he⟩ := h
  have hn := sub_next (B := 65536) (by omega) hc hl he
  refine ⟨hn.2, by simp [hl], ?_, hn.1⟩
  intro x hx
  rcases List.mem_append.1 hx with hx | hx
  · exact hd x hx
  · simp at hx; omega
theorem DifTo.zero (a b : Nat) : DifTo a b 0 0 [] := ⟨by omega, rfl, (fun x hx => by cases hx), by simp [val, Nat.mod_one]⟩
set_option maxRecDepth 100000 in
set_option maxHeartbeats 1600000 in
theorem sub_any (v u : Value) (a b : Nat) (w : World) (ha : Small a) (hba : b ≤ a) (h : Dg w v a) (h2 : Dg w u b) :
    Calls Try.prog 99 #[v, u] w fun e w' => (∃ v', e = .returned v' ∧ Dg w' v' (a - b)) ∧ Below w.heap.size w w' := by
  obtain ⟨i0, hi, hz0, hz1, hz2⟩ := info_parts Try.info137
  have D1 := Lib.hid h
  have D2 := Lib.hid h2
  obtain ⟨p1, c1, rfl⟩ := h.len
  have la2 := ha.dg16
  have HA := Lib.hid (dg_lt_pow (B := 65536) (by omega) a)
  have BA := Lib.hid hba
  obtain ⟨n1, hn1⟩ : ∃ n, n = (dg 65536 a).length := ⟨_, rfl⟩
  rw [← hn1] at HA D1 la2 ⊢
  clear h h2 ha hba hn1
  go_enter Try.func99, Try.ntmps99
  go_wp2_with fail
  go_loopw [5, 6, 7] (fun d c i wr => ∃ (k c' : Nat) (l : List Nat), k ≤ n1 ∧ i = .int .i64 k ∧ c = .int .u64 c' ∧ DifTo a b k c' l ∧ Owns w wr d l) (fun _ _ i _ => n1 - (intOf i).toNat)
  case atStart => exact ⟨0, 0, [], by omega, rfl, rfl, DifTo.zero a b, Owns.zero _⟩
  case round =>
    obtain ⟨k, c, l, hk, rfl, rfl, hs, ho⟩ := hrel
    have S := Lib.hid hs
    have O := Lib.hid ho
    have hc1 : c ≤ 1 := hs.1
    have hlk := Lib.hid hs.2.1
    clear hs ho
    by_cases hlt : k < n1
    · have SN := S.out.next
      have P1 := at_dg _ a k wr (by omega) (D1.out.later O.out.2)
      have P2 := at_dg _ b k wr (by omega) (D2.out.later O.out.2)
      obtain ⟨x, hx⟩ : ∃ x, x = a / 65536 ^ k % 65536 := ⟨_, rfl⟩
      obtain ⟨y, hy⟩ : ∃ y, y = b / 65536 ^ k % 65536 := ⟨_, rfl⟩
      have hx1 : x < 65536 := by omega
      have hy1 : y < 65536 := by omega
      rw [← hx, ← hy] at SN
      rw [← hx] at P1
      rw [← hy] at P2
      have SN := Lib.hid SN
      have P1 := Lib.hid P1
      have P2 := Lib.hid P2
      clear hx hy
      go_wp2_with fail
      refine P1.out.mono ?_
      rintro e w' ⟨rfl, rfl⟩
      go_wp2_with fail
      refine P2.out.mono ?_
      rintro e w' ⟨rfl, rfl⟩
      have HO := O.out.1
      go_wp2_with (at_builtin; go_loud (refine wpList_app (w0 := wr) rfl (.tmp 25) (.tmp 28) 141 rfl w.heap.size 137 i0 (.int .u64 0) 1 8 [.int .u64 ((65536 + (x : Int) - (y : Int) - (c : Int)) % 65536)] Try.underlying141 hi hz0 hz1 hz2 rfl rfl (by decide) _ _ _ rfl HO rfl (by simp [Value.oneCell']) ?c1 ?c2 O.out.2.size ?_))
      case c1 => rw [hlk.out]; unfold maxLen; omega
      case c2 => rw [hlk.out]; omega
      intro g' cap' w5 hown5 hb5
      have O2 := Lib.hid (show Owns w w5 (.slice (some ⟨g', 0, none⟩) (l.length + 1) cap') (l ++ [(65536 + x - y - c) % 65536]) from ⟨by
        rw [ints_put l .u64 _ ((65536 + x - y - c) % 65536) (by omega)] at hown5
        simpa using hown5, O.out.2.trans hb5⟩)
      clear hown5 hb5 HO
      go_wp2_with fail
      refine ⟨⟨k + 1, 1 - (65536 + x - y - c) / 65536, _, by omega, by go_num, ?_, SN.out, O2.out⟩, by (first | (simp [intOf]; done) | (simp [intOf]; omega) | (simp only [intOf]; omega))⟩
      exact congrArg (fun z => Value.int .u64 z) (by omega)
    · obtain rfl : k = n1 := by omega
      have hv := sub_end (B := 65536) S.out.2.1 S.out.2.2.1 HA.out BA.out S.out.2.2.2
      have HV := Lib.hid hv
      clear hv
      go_wp2_with fail
      refine (cut_any _ l wr S.out.2.2.1 (Rd.of_owns O.out.1 (by rw [hlk.out]; omega)) (own_cap O.out.1)).mono ?_
      rintro e w6 ⟨⟨v6, rfl, h6⟩, rfl⟩
      rw [HV.out] at h6
      have H6 := Lib.hid h6
      clear h6
      go_wp2_with fail
      go_ret
      exact ⟨⟨_, rfl, H6.out⟩, O.out.2⟩
theorem dg_short {a : Nat} (h : Small a) : (dg 65536 a).length ≤ 100000 := by have := h.dg16; omega
theorem Sub_any (v u : Value) (a b : Nat) (w : World) (ha : Small a) (hba : b ≤ a) (h : Nt w v a) (h2 : Nt w u b) :
    Calls Try.prog 93 #[v, u] w fun e w' => (∃ v', e = .returned (.tuple #[v', .bool true]) ∧ Nt w' v' (a - b)) ∧ Below w.heap.size w w' := by
  have A := Lib.hid h
  have B := Lib.hid h2
  have hb := ha.le hba
  have la := ha.dg32
  have lb := hb.dg32
  have HA := Lib.hid ha
  have HB := Lib.hid hb
  have BA := Lib.hid hba
  have hcm : Hid (0 ≤ cmpN a b) := Lib.hid (by unfold cmpN; split; omega; split <;> omega)
  clear h h2 ha hb hba
  go_enter Try.func93, Try.ntmps93
  go_wp2_with fail
  refine (Cmp_any _ _ a b w HA.out HB.out A.out B.out).mono ?_
  rintro e w0 ⟨rfl, hb0⟩
  have B0 := Lib.hid hb0
  have A := Lib.hid (A.out.later hb0)
  have B := Lib.hid (B.out.later hb0)
  obtain ⟨c, hc⟩ : ∃ c, c = cmpN a b := ⟨_, rfl⟩
  have hc0 : ¬ c < 0 := by rw [hc]; have := hcm.out; omega
  rw [← hc]
  clear hb0 hc
  go_wp2_with fail
  refine (half_any _ a w0 (by omega) A.out).mono ?_
  rintro e w1 ⟨⟨v1, rfl, hd1⟩, hb1⟩
  have D1 := Lib.hid hd1
  have B1 := Lib.hid hb1
  clear hd1 hb1
  go_wp2_with fail
  refine (half_any _ b w1 (by omega) (B.out.later B1.out)).mono ?_
  rintro e w2 ⟨⟨v2, rfl, hd2⟩, hb2⟩
  have D2 := Lib.hid hd2
  have B2 := Lib.hid hb2
  clear hd2 hb2
  go_wp2_with fail
  refine (sub_any _ _ a b w2 HA.out BA.out (D1.out.later B2.out) D2.out).mono ?_
  rintro e w3 ⟨⟨v3, rfl, hd3⟩, hb3⟩
  have D3 := Lib.hid hd3
  have B3 := Lib.hid hb3
  clear hd3 hb3
  go_wp2_with fail
  refine (words_any _ (dg 65536 (a - b)) w3 (dg_lt (by omega) _) (dg_short (HA.out.le (Nat.sub_le _ _))) D3.out.1 D3.out.2).mono ?_
  rintro e w4 ⟨⟨v4, rfl, h4⟩, hb4⟩
  rw [val_dg (by omega)] at h4
  have H4 := Lib.hid h4
  have B4 := Lib.hid hb4
  clear h4 hb4
  go_wp2_with fail
  refine bodyPost_ret (v := .tuple #[v4, .bool true]) ?_ rfl ⟨⟨v4, rfl, H4.out⟩, ?_⟩
  · simp [results, Try.results93, go_sem]
  · have b1 := B0.out.trans (B1.out.mono B0.out.size)
    have b2 := b1.trans (B2.out.mono b1.size)
    have b3 := b2.trans (B3.out.mono b2.size)
    exact b3.trans (B4.out.mono b3.size)
end Go.Proofs.Ythglgempbdaikaa
