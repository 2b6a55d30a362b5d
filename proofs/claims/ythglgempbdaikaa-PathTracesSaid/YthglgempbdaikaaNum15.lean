/- Contracts of the reference's roots: less. -/
import Derived.Test.YthglgempbdaikaaNum13
namespace Go.Proofs.Ythglgempbdaikaa
open Go.RowKit

/-- a difference, as far as k digits of 32 bits -/
def WifTo (a b k c : Nat) (l : List Nat) : Prop := c ≤ 1 ∧ l.length = k ∧ (∀ x ∈ l, x < 4294967296) ∧ val 4294967296 l + b % 4294967296 ^ k = a % 4294967296 ^ k + 4294967296 ^ k * c
theorem WifTo.next {a b k c : Nat} {l : List Nat} (h : WifTo a b k c l) : WifTo a b (k + 1) (1 - (4294967296 + a / 4294967296 ^ k % 4294967296 - b / 4294967296 ^ k % 4294967296 - c) / 4294967296) (l ++ [(4294967296 + a / 4294967296 ^ k % 4294967296 - b / 4294967296 ^ k % 4294967296 - c) % 4294967296]) := by
  obtain ⟨hc, hl, hd, he⟩ := h
  have hn := sub_next (B := 4294967296) (by omega) hc hl he
  refine ⟨hn.2, by simp [hl], ?_, hn.1⟩
  intro x hx
  rcases List.mem_append.1 hx with hx | hx
  · exact hd x hx
  · simp at hx; omega
theorem WifTo.zero (a b : Nat) : WifTo a b 0 0 [] := ⟨by omega, rfl, (fun x hx => by cases hx), by simp [val, Nat.mod_one]⟩
set_option maxRecDepth 100000 in
set_option maxHeartbeats 1600000 in
theorem less_any (v u : Value) (a b : Nat) (w : World) (ha : Small a) (hba : b ≤ a) (h : Ug w v a) (h2 : Ug w u b) :
    Calls Try.prog 104 #[v, u] w fun e w' => (∃ v', e = .returned v' ∧ Ug w' v' (a - b)) ∧ Below w.heap.size w w' := by
  obtain ⟨i0, hi, hz0, hz1, hz2⟩ := info_parts Try.info137
  obtain ⟨p, cap, rfl, hc⟩ := rd_cells (by omega) h.1
  obtain ⟨p2, cap2, rfl, hc2⟩ := rd_cells (by omega) h2.1
  have la := ha.dg32
  have hmono := dg_len_mono (B := 4294967296) (by omega) hba
  have la2 := Lib.hid (dg_lt_pow (B := 4294967296) (by omega) a)
  have BA := Lib.hid hba
  have hbig : ∀ i, (dg 4294967296 b).length ≤ i → b / 4294967296 ^ i % 4294967296 = 0 := fun i hi => by
    rw [← dg_getD (by omega), List.getD_eq_getElem?_getD, List.getElem?_eq_none hi]; rfl
  obtain ⟨n, hn⟩ : ∃ n, n = (dg 4294967296 a).length := ⟨_, rfl⟩
  obtain ⟨m, hm⟩ : ∃ m, m = (dg 4294967296 b).length := ⟨_, rfl⟩
  rw [← hn] at hc la la2 hmono ⊢
  rw [← hm] at hc2 hmono hbig ⊢
  have C := Lib.hid hc
  have C2 := Lib.hid hc2
  have BG := Lib.hid hbig
  clear hn hm hc hc2 h h2 ha hba hbig
  go_enter Try.func104, Try.ntmps104
  go_wp2_with fail
  go_loopw [5, 6, 7] (fun d c i wr => ∃ (k c' : Nat) (l : List Nat), k ≤ n ∧ i = .int .i64 k ∧ c = .int .u64 c' ∧ WifTo a b k c' l ∧ Owns w wr d l) (fun _ _ i _ => n - (intOf i).toNat)
  case atStart => exact ⟨0, 0, [], by omega, rfl, rfl, WifTo.zero a b, Owns.zero _⟩
  case round =>
    obtain ⟨k, c, l, hk, rfl, rfl, hs, ho⟩ := hrel
    have S := Lib.hid hs
    have O := Lib.hid ho
    have hc1 : c ≤ 1 := hs.1
    have hlk := Lib.hid hs.2.1
    clear hs ho
    by_cases hlt : k < n
    · have SN := S.out.next
      obtain ⟨g, off, rfl, hcc⟩ := C.out (by omega)
      have c0 := cell_later O.out.2 (hcc k hlt)
      obtain ⟨x, hx⟩ : ∃ x, x = a / 4294967296 ^ k % 4294967296 := ⟨_, rfl⟩
      have hx1 : x < 4294967296 := by omega
      rw [← hx] at c0 SN
      clear hx hcc
      have HO := O.out.1
      by_cases h1 : k < m
      · obtain ⟨g2, off2, rfl, hcc2⟩ := C2.out (by omega)
        have d0 := cell_later O.out.2 (hcc2 k h1)
        obtain ⟨y, hy⟩ : ∃ y, y = b / 4294967296 ^ k % 4294967296 := ⟨_, rfl⟩
        have hy1 : y < 4294967296 := by omega
        rw [← hy] at d0 SN
        have SN := Lib.hid SN
        clear hy hcc2
        go_wp2_with (at_builtin; go_loud (refine wpList_app (w0 := wr) rfl (.tmp 32) (.tmp 35) 141 rfl w.heap.size 137 i0 (.int .u64 0) 1 8 [.int .u64 ((4294967296 + (x : Int) - (c : Int) - (y : Int)) % 4294967296)] Try.underlying141 hi hz0 hz1 hz2 rfl rfl (by decide) _ _ _ rfl HO rfl (by simp [Value.oneCell']) ?c1 ?c2 O.out.2.size ?_))
        case c1 => rw [hlk.out]; unfold maxLen; omega
        case c2 => rw [hlk.out]; omega
        intro g' cap' w5 hown5 hb5
        have O2 := Lib.hid (show Owns w w5 (.slice (some ⟨g', 0, none⟩) (l.length + 1) cap') (l ++ [(4294967296 + x - y - c) % 4294967296]) from ⟨by
          rw [ints_put l .u64 _ ((4294967296 + x - y - c) % 4294967296) (by omega)] at hown5
          simpa using hown5, O.out.2.trans hb5⟩)
        clear hown5 hb5 HO
        go_wp2_with fail
        refine ⟨⟨k + 1, 1 - (4294967296 + x - y - c) / 4294967296, _, by omega, by go_num, ?_, SN.out, O2.out⟩, by (first | (simp [intOf]; done) | (simp [intOf]; omega) | (simp only [intOf]; omega))⟩
        exact congrArg (fun z => Value.int .u64 z) (by omega)
      · rw [BG.out k (by omega)] at SN
        have SN := Lib.hid SN
        go_wp2_with (at_builtin; go_loud (refine wpList_app (w0 := wr) rfl (.tmp 32) (.tmp 35) 141 rfl w.heap.size 137 i0 (.int .u64 0) 1 8 [.int .u64 ((4294967296 + (x : Int) - (c : Int)) % 4294967296)] Try.underlying141 hi hz0 hz1 hz2 rfl rfl (by decide) _ _ _ rfl HO rfl (by simp [Value.oneCell']) ?d1 ?d2 O.out.2.size ?_))
        case d1 => rw [hlk.out]; unfold maxLen; omega
        case d2 => rw [hlk.out]; omega
        intro g' cap' w5 hown5 hb5
        have O2 := Lib.hid (show Owns w w5 (.slice (some ⟨g', 0, none⟩) (l.length + 1) cap') (l ++ [(4294967296 + x - 0 - c) % 4294967296]) from ⟨by
          rw [ints_put l .u64 _ ((4294967296 + x - 0 - c) % 4294967296) (by omega)] at hown5
          simpa using hown5, O.out.2.trans hb5⟩)
        clear hown5 hb5 HO
        go_wp2_with fail
        refine ⟨⟨k + 1, 1 - (4294967296 + x - 0 - c) / 4294967296, _, by omega, by go_num, ?_, SN.out, O2.out⟩, by (first | (simp [intOf]; done) | (simp [intOf]; omega) | (simp only [intOf]; omega))⟩
        exact congrArg (fun z => Value.int .u64 z) (by omega)
    · obtain rfl : k = n := by omega
      have hown := O.out.1
      obtain ⟨q, cp, rfl, hcp⟩ := own_slice hown
      have HR := Lib.hid (Rd.of_owns hown (by rw [hlk.out]; omega))
      have HV := Lib.hid (sub_end (B := 4294967296) S.out.2.1 S.out.2.2.1 la2.out BA.out S.out.2.2.2)
      have HB := Lib.hid O.out.2
      have HD := Lib.hid S.out.2.2.1
      have hl10 : l.length ≤ 10 := by rw [hlk.out]; omega
      clear hown O S hlk
      go_wp2_with fail
      go_loop [5] (fun y => ∃ m : Nat, m ≤ l.length ∧ y = .slice q m cp ∧ ZR l m) (fun y => match y with | .slice _ m _ => m | _ => 0)
      case atStart => exact ⟨l.length, by omega, rfl, fun j h1 h2 => by omega⟩
      case round =>
        obtain ⟨m, hm, rfl, hz⟩ := hrel
        have Z := Lib.hid hz
        clear hz
        cases m with
        | zero =>
          go_wp2_with fail
          go_ret
          exact ⟨⟨_, rfl, by rw [← HV.out]; exact trimmed HR.out hcp (by omega) HD.out Z.out (.inl rfl)⟩, HB.out⟩
        | succ m =>
          obtain ⟨q', cp', he, _, hcl⟩ := HR.out
          cases he
          obtain ⟨g, off, rfl, hcc⟩ := hcl (by omega)
          have c0 : wr.cell? ⟨g, off + m, none⟩ = some (.int .u64 (l.getD m 0 : Nat)) := hcc m (by omega)
          obtain ⟨x, hx⟩ : ∃ x, x = l.getD m 0 := ⟨_, rfl⟩
          rw [← hx] at c0
          have X := Lib.hid hx
          clear hcc hcl hx
          by_cases h0 : x = 0
          · subst h0
            go_wp2_with fail
            go_round
            case rel =>
              refine ⟨m, by omega, by first | rfl | go_num, fun j h1 h2 => ?_⟩
              by_cases e : j = m
              · subst e; exact X.out.symm
              · exact Z.out j (by omega) h2
            case measure => first | (simp; done) | (simp; omega)
          · have h0' : ((x : Int) == 0) = false := by simp; omega
            go_wp2_with fail
            go_ret
            exact ⟨⟨_, rfl, by rw [← HV.out]; exact trimmed HR.out hcp hm HD.out Z.out (.inr (by show l.getD m 0 ≠ 0; rw [← X.out]; exact h0))⟩, HB.out⟩
end Go.Proofs.Ythglgempbdaikaa
