/- Contracts of the reference's roots: halved. -/
import Derived.Test.YthglgempbdaikaaNum12
namespace Go.Proofs.Ythglgempbdaikaa
open Go.RowKit

theorem half_digit (a k : Nat) : a / 2 / 4294967296 ^ k % 4294967296 = a / 4294967296 ^ k % 4294967296 / 2 + a / 4294967296 ^ (k + 1) % 4294967296 % 2 * 2147483648 := by
  rw [Nat.pow_succ, ← Nat.div_div_eq_div_mul, Nat.div_div_eq_div_mul a 2, Nat.mul_comm 2, ← Nat.div_div_eq_div_mul]
  obtain ⟨y, hy⟩ : ∃ y, y = a / 4294967296 ^ k := ⟨_, rfl⟩
  rw [← hy]
  omega
/-- the first k digits of 32 bits of m -/
def DgTo (m k : Nat) (l : List Nat) : Prop := l.length = k ∧ (∀ x ∈ l, x < 4294967296) ∧ val 4294967296 l = m % 4294967296 ^ k
theorem DgTo.next {m k x : Nat} {l : List Nat} (h : DgTo m k l) (hx : x = m / 4294967296 ^ k % 4294967296) : DgTo m (k + 1) (l ++ [x]) := by
  obtain ⟨hl, hd, he⟩ := h
  refine ⟨by simp [hl], ?_, ?_⟩
  · intro y hy
    rcases List.mem_append.1 hy with hy | hy
    · exact hd y hy
    · simp at hy; omega
  · rw [val_snoc, he, hl, mod_next, hx]
theorem rdk_take {k : IntKind} {w : World} {a : Option Addr} {l : List Nat} {n cap : Nat} (hn : n ≤ l.length) (h : Rd k w (.slice a l.length cap) l) : Rd k w (.slice a n cap) (l.take n) := by
  obtain ⟨a', cap', hv, hl, hc⟩ := h
  cases hv
  have hlen : (l.take n).length = n := by simp; omega
  refine ⟨a, cap, by rw [hlen], by omega, fun h0 => ?_⟩
  obtain ⟨g, off, ha, hcc⟩ := hc (by omega)
  refine ⟨g, off, ha, fun j hj => ?_⟩
  have := hcc j (by omega)
  rw [this]
  simp [List.getD, show j < n by omega]
/-- what is left behind the cutting of the noughts at the top -/
theorem trimmed {w : World} {p : Option Addr} {l : List Nat} {m cap : Nat} (h : Rd .u64 w (.slice p l.length cap) l) (hcap : l.length ≤ cap) (hm : m ≤ l.length) (hd : ∀ x ∈ l, x < 4294967296) (hz : ZR l m) (h1 : m = 0 ∨ l.getD (m - 1) 0 ≠ 0) :
    Ug w (.slice p m cap) (val 4294967296 l) := by
  have e := dg_cut (B := 4294967296) (by omega) l m hm hd hz h1
  exact ⟨by rw [← e]; exact rdk_take hm h, ⟨_, _, _, rfl, by omega⟩⟩
theorem own_slice {w : World} {B : Nat} {e : TypeId} {size : Nat} {v : Value} {n : Nat} {xs : List Value} (h : w.ownsRow B e size v n xs) : ∃ p cap, v = .slice p n cap ∧ n ≤ cap := by
  rcases h.2 with ⟨rfl, rfl⟩ | ⟨g, cap, cur, rfl, _, _, hc, _⟩
  · exact ⟨none, 0, rfl, by omega⟩
  · exact ⟨_, _, rfl, hc⟩
set_option maxRecDepth 100000 in
set_option maxHeartbeats 1600000 in
theorem halved_any (v : Value) (a : Nat) (w : World) (ha : Small a) (h : Ug w v a) : Calls Try.prog 102 #[v] w fun e w' => (∃ v', e = .returned v' ∧ Ug w' v' (a / 2)) ∧ Below w.heap.size w w' := by
  obtain ⟨i0, hi, hz0, hz1, hz2⟩ := info_parts Try.info137
  obtain ⟨p, cap, rfl, hc⟩ := rd_cells (by omega) h.1
  have la := ha.dg32
  have hlt2 := dg_lt_pow (B := 4294967296) (by omega) a
  have hbig : ∀ i, (dg 4294967296 a).length ≤ i → a / 4294967296 ^ i % 4294967296 = 0 := fun i hi => by
    rw [← dg_getD (by omega), List.getD_eq_getElem?_getD, List.getElem?_eq_none hi]; rfl
  obtain ⟨n, hn⟩ : ∃ n, n = (dg 4294967296 a).length := ⟨_, rfl⟩
  rw [← hn] at hlt2 hc la hbig ⊢
  have C := Lib.hid hc
  have HA := Lib.hid hlt2
  have BG := Lib.hid hbig
  clear hn hc h ha hlt2 hbig
  go_enter Try.func102, Try.ntmps102
  go_wp2_with fail
  go_loopw [3, 4] (fun d i wr => ∃ (k : Nat) (l : List Nat), k ≤ n ∧ i = .int .i64 k ∧ DgTo (a / 2) k l ∧ Owns w wr d l) (fun _ i _ => n - (intOf i).toNat)
  case atStart => exact ⟨0, [], by omega, rfl, ⟨rfl, (fun x hx => by cases hx), by simp [val, Nat.mod_one]⟩, Owns.zero _⟩
  case round =>
    obtain ⟨k, l, hk, rfl, hs, ho⟩ := hrel
    have S := Lib.hid hs
    have O := Lib.hid ho
    have hlk := Lib.hid hs.1
    clear hs ho
    by_cases hlt : k < n
    · obtain ⟨g, off, rfl, hcc⟩ := C.out (by omega)
      have c0 := cell_later O.out.2 (hcc k hlt)
      have HD := Lib.hid (half_digit a k)
      obtain ⟨x, hx⟩ : ∃ x, x = a / 4294967296 ^ k % 4294967296 := ⟨_, rfl⟩
      have hx1 : x < 4294967296 := by omega
      rw [← hx] at c0 HD
      clear hx
      have HO := O.out.1
      by_cases h1 : k + 1 < n
      · have c1 := cell_later O.out.2 (hcc (k + 1) h1)
        obtain ⟨y, hy⟩ : ∃ y, y = a / 4294967296 ^ (k + 1) % 4294967296 := ⟨_, rfl⟩
        have hy1 : y < 4294967296 := by omega
        rw [← hy] at c1 HD
        clear hy hcc
        go_wp2_with (at_builtin; go_loud (refine wpList_app (w0 := wr) rfl (.tmp 31) (.tmp 33) 141 rfl w.heap.size 137 i0 (.int .u64 0) 1 8 [.int .u64 ((x : Int) / 2 + (y : Int) % 2 * 2147483648)] Try.underlying141 hi hz0 hz1 hz2 rfl rfl (by decide) _ _ _ rfl HO rfl (by simp [Value.oneCell']) ?c1 ?c2 O.out.2.size ?_))
        case c1 => rw [hlk.out]; unfold maxLen; omega
        case c2 => rw [hlk.out]; omega
        intro g' cap' w5 hown5 hb5
        have O2 := Lib.hid (show Owns w w5 (.slice (some ⟨g', 0, none⟩) (l.length + 1) cap') (l ++ [x / 2 + y % 2 * 2147483648]) from ⟨by
          rw [ints_put l .u64 _ (x / 2 + y % 2 * 2147483648) (by omega)] at hown5
          simpa using hown5, O.out.2.trans hb5⟩)
        have S2 := Lib.hid (S.out.next (x := x / 2 + y % 2 * 2147483648) HD.out.symm)
        clear hown5 hb5 HO
        go_wp2_with fail
        refine ⟨⟨k + 1, _, by omega, by go_num, S2.out, O2.out⟩, by (first | (simp [intOf]; done) | (simp [intOf]; omega) | (simp only [intOf]; omega))⟩
      · rw [BG.out (k + 1) (by omega)] at HD
        clear hcc
        go_wp2_with (at_builtin; go_loud (refine wpList_app (w0 := wr) rfl (.tmp 31) (.tmp 33) 141 rfl w.heap.size 137 i0 (.int .u64 0) 1 8 [.int .u64 ((x : Int) / 2)] Try.underlying141 hi hz0 hz1 hz2 rfl rfl (by decide) _ _ _ rfl HO rfl (by simp [Value.oneCell']) ?d1 ?d2 O.out.2.size ?_))
        case d1 => rw [hlk.out]; unfold maxLen; omega
        case d2 => rw [hlk.out]; omega
        intro g' cap' w5 hown5 hb5
        have O2 := Lib.hid (show Owns w w5 (.slice (some ⟨g', 0, none⟩) (l.length + 1) cap') (l ++ [x / 2]) from ⟨by
          rw [ints_put l .u64 _ (x / 2) (by omega)] at hown5
          simpa using hown5, O.out.2.trans hb5⟩)
        have S2 := Lib.hid (S.out.next (x := x / 2) (by have := HD.out; omega))
        clear hown5 hb5 HO
        go_wp2_with fail
        refine ⟨⟨k + 1, _, by omega, by go_num, S2.out, O2.out⟩, by (first | (simp [intOf]; done) | (simp [intOf]; omega) | (simp only [intOf]; omega))⟩
    · obtain rfl : k = n := by omega
      have hown := O.out.1
      obtain ⟨q, cp, rfl, hcp⟩ := own_slice hown
      have HR := Lib.hid (Rd.of_owns hown (by rw [hlk.out]; omega))
      have hv : val 4294967296 l = a / 2 := by rw [S.out.2.2, Nat.mod_eq_of_lt]; have := HA.out; omega
      have HV := Lib.hid hv
      have HB := Lib.hid O.out.2
      have HD := Lib.hid S.out.2.1
      have hl10 : l.length ≤ 10 := by rw [hlk.out]; omega
      clear hown hv O S hlk
      go_wp2_with fail
      go_loop [3] (fun y => ∃ m : Nat, m ≤ l.length ∧ y = .slice q m cp ∧ ZR l m) (fun y => match y with | .slice _ m _ => m | _ => 0)
      case atStart => exact ⟨l.length, by omega, rfl, fun j h1 h2 => by omega⟩
      case round =>
        obtain ⟨m, hm, rfl, hz⟩ := hrel
        have Z := Lib.hid hz
        clear hz
        cases m with
        | zero =>
          go_wp2_with fail
          go_ret
          exact ⟨⟨_, rfl, by rw [← HV.out]; exact trimmed HR.out hcp (by omega) HD.out Z.out (.inl rfl)⟩, HB.out⟩
        | succ m =>
          obtain ⟨q', cp', he, _, hcl⟩ := HR.out
          cases he
          obtain ⟨g, off, rfl, hcc⟩ := hcl (by omega)
          have c0 : wr.cell? ⟨g, off + m, none⟩ = some (.int .u64 (l.getD m 0 : Nat)) := hcc m (by omega)
          obtain ⟨x, hx⟩ : ∃ x, x = l.getD m 0 := ⟨_, rfl⟩
          rw [← hx] at c0
          have X := Lib.hid hx
          clear hcc hcl hx
          by_cases h0 : x = 0
          · subst h0
            go_wp2_with fail
            go_round
            case rel =>
              refine ⟨m, by omega, by first | rfl | go_num, fun j h1 h2 => ?_⟩
              by_cases e : j = m
              · subst e; exact X.out.symm
              · exact Z.out j (by omega) h2
            case measure => first | (simp; done) | (simp; omega)
          · have h0' : ((x : Int) == 0) = false := by simp; omega
            go_wp2_with fail
            go_ret
            exact ⟨⟨_, rfl, by rw [← HV.out]; exact trimmed HR.out hcp hm HD.out Z.out (.inr (by show l.getD m 0 ≠ 0; rw [← X.out]; exact h0))⟩, HB.out⟩
end Go.Proofs.Ythglgempbdaikaa
