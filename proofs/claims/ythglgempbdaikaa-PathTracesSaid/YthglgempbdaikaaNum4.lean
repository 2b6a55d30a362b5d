/- Contracts of the reference's numbers: Words. -/
import Derived.Test.YthglgempbdaikaaNum3
import Derived.Test.YthglgempbdaikaaNumL
namespace Go.Proofs.Ythglgempbdaikaa
open Go.RowKit

theorem val_getD {B : Nat} (hB : 0 < B) (l : List Nat) (h : ∀ x ∈ l, x < B) (i : Nat) : l.getD i 0 = val B l / B ^ i % B := by
  induction l generalizing i with
  | nil => simp [val]
  | cons x l ih =>
    have hx := h x (List.mem_cons_self ..)
    have hl := ih (fun y hy => h y (List.mem_cons_of_mem _ hy))
    cases i with
    | zero => simp [val, Nat.mod_eq_of_lt hx]
    | succ i =>
      rw [List.getD_cons_succ, hl i, Nat.pow_succ, Nat.mul_comm, ← Nat.div_div_eq_div_mul]
      have e : val B (x :: l) = x + B * val B l := rfl
      rw [e, Nat.add_mul_div_left _ _ hB, Nat.div_eq_of_lt hx, Nat.zero_add]
theorem own_cap {w : World} {B : Nat} {e : TypeId} {size : Nat} {v : Value} {n : Nat} {xs : List Value} (h : w.ownsRow B e size v n xs) : CapOk v := by
  rcases h.2 with ⟨rfl, _⟩ | ⟨g, cap, cur, rfl, _, _, hc, _⟩
  · exact ⟨none, 0, 0, rfl, by omega⟩
  · exact ⟨_, _, _, rfl, hc⟩
def WRel (m : Nat) (w wr : World) (v : Value) (k : Nat) : Prop := wr.ownsRow w.heap.size 123 1 v k (ints .u32 ((dg 4294967296 m).take k)) ∧ Below w.heap.size w wr
set_option maxRecDepth 100000 in
set_option maxHeartbeats 1600000 in
theorem words_any (v : Value) (l : List Nat) (w : World) (hd : ∀ x ∈ l, x < 65536) (hlen : l.length ≤ 100000) (h : Rd .u64 w v l) (hcap : CapOk v) :
    Calls Try.prog 87 #[v] w fun e w' => (∃ v', e = .returned v' ∧ Nt w' v' (val 65536 l)) ∧ Below w.heap.size w w' := by
  obtain ⟨i0, hi, hz0, hz1, hz2⟩ := info_parts Try.info123
  have hg := val_getD (B := 65536) (by omega) l hd
  have hnl : (dg 65536 (val 65536 l)).length ≤ l.length := dg_length (by omega) _ _ (val_lt l hd)
  have hK := dg_len_sq (B := 65536) (by omega) (val 65536 l)
  have hbig : ∀ i, (dg 65536 (val 65536 l)).length ≤ i → val 65536 l / 65536 ^ i % 65536 = 0 := fun i hi => by
    rw [← dg_getD (by omega), List.getD_eq_getElem?_getD, List.getElem?_eq_none hi]; rfl
  have h2 := two_digits 65536 (val 65536 l)
  have hsn := dg_take_snoc (B := 65536 * 65536) (by omega) (val 65536 l)
  simp only [Nat.reduceMul] at h2 hK hsn
  have H := Lib.hid h
  have D := Lib.hid hd
  have CP := Lib.hid hcap
  obtain ⟨a, cap, rfl, hl, hc⟩ := h
  have C := Lib.hid hc
  clear hd hcap hc
  go_enter Try.func87, Try.ntmps87
  go_wp2_with fail
  refine (cut_any _ l w D.out H.out CP.out).mono ?_
  rintro e w1 ⟨⟨v', rfl, hv', hc'⟩, rfl⟩
  obtain ⟨a', cap', rfl, hl', _⟩ := hv'
  clear hc' hl'
  obtain ⟨m, hm⟩ : ∃ m, m = val 65536 l := ⟨_, rfl⟩
  rw [← hm] at hg hnl hK hbig h2 hsn ⊢
  obtain ⟨n, hn⟩ : ∃ n, n = (dg 65536 m).length := ⟨_, rfl⟩
  rw [← hn] at hnl hK hbig ⊢
  have G := Lib.hid hg
  have K := Lib.hid hK
  have BG := Lib.hid hbig
  have T2 := Lib.hid h2
  have SN := Lib.hid hsn
  have HM := Lib.hid hm
  clear hg hK hbig h2 hsn hm hn
  go_wp2_with fail
  go_loopw [3, 5] (fun v i wr => ∃ k q : Nat, q = 2 * k ∧ q ≤ n + 1 ∧ i = .int .i64 q ∧ WRel m w wr v k) (fun _ i _ => n + 2 - (intOf i).toNat)
  case atStart => exact ⟨0, 0, rfl, by omega, rfl, World.ownsRow_nil _ _ _ _, Below.refl _ _⟩
  case round =>
    obtain ⟨k, q, hq, hqn, rfl, hrel⟩ := hrel
    have R := Lib.hid hrel
    have HQ := Lib.hid hq
    have hk0 : k ≤ 100000 := by omega
    clear hrel hq
    by_cases hlt : q < n
    · obtain ⟨g, off, rfl, hcc⟩ := C.out (by omega)
      have c0 := cell_later R.out.2 (hcc q (by omega))
      have hx0 : l.getD q 0 < 65536 := by rw [G.out]; exact Nat.mod_lt _ (by omega)
      obtain ⟨x, hx⟩ : ∃ x, x = l.getD q 0 := ⟨_, rfl⟩
      rw [← hx] at c0 hx0
      have HO := R.out.1
      by_cases h1 : q + 1 < n
      · have c1 := cell_later R.out.2 (hcc (q + 1) (by omega))
        have hy0 : l.getD (q + 1) 0 < 65536 := by rw [G.out]; exact Nat.mod_lt _ (by omega)
        obtain ⟨y, hy⟩ : ∃ y, y = l.getD (q + 1) 0 := ⟨_, rfl⟩
        rw [← hy] at c1 hy0
        have HV : Hid (m / 4294967296 ^ k % 4294967296 = x + y * 65536) := Lib.hid (by rw [T2.out, hx, hy, G.out, G.out, HQ.out])
        have HS := Lib.hid (SN.out k (by rw [K.out]; have := HQ.out; omega))
        clear hcc hx hy
        go_wp2_with (at_builtin; go_loud (refine wpList_app (w0 := wr) rfl (.tmp 31) (.tmp 34) 101 rfl w.heap.size 123 i0 (.int .u32 0) 1 4 [.int .u32 ((x : Int) + (y : Int) * 65536)] Try.underlying101 hi hz0 hz1 hz2 rfl rfl (by decide) _ _ _ rfl HO rfl (by simp [Value.oneCell']) ?c1 ?c2 R.out.2.size ?_))
        case c1 => unfold maxLen; omega
        case c2 => omega
        intro g' cap' w5 hown5 hb5
        have S := Lib.hid (show WRel m w w5 (.slice (some ⟨g', 0, none⟩) (k + 1) cap') (k + 1) from ⟨by
          rw [HS.out, HV.out]
          simpa [ints] using hown5, R.out.2.trans hb5⟩)
        clear hown5 hb5 HO
        go_wp2_with fail
        have e := HQ.out
        refine ⟨⟨k + 1, q + 2, by omega, by omega, by go_num, S.out⟩, by (first | (simp [intOf]; done) | (simp [intOf]; omega) | (simp only [intOf]; omega))⟩
      · have HV : Hid (m / 4294967296 ^ k % 4294967296 = x) := Lib.hid (by rw [T2.out, hx, G.out, ← HQ.out, BG.out (q + 1) (by omega)]; omega)
        have HS := Lib.hid (SN.out k (by rw [K.out]; have := HQ.out; omega))
        clear hcc hx
        go_wp2_with (at_builtin; go_loud (refine wpList_app (w0 := wr) rfl (.tmp 31) (.tmp 34) 101 rfl w.heap.size 123 i0 (.int .u32 0) 1 4 [.int .u32 (x : Int)] Try.underlying101 hi hz0 hz1 hz2 rfl rfl (by decide) _ _ _ rfl HO rfl (by simp [Value.oneCell']) ?d1 ?d2 R.out.2.size ?_))
        case d1 => unfold maxLen; omega
        case d2 => omega
        intro g' cap' w5 hown5 hb5
        have S := Lib.hid (show WRel m w w5 (.slice (some ⟨g', 0, none⟩) (k + 1) cap') (k + 1) from ⟨by
          rw [HS.out, HV.out]
          simpa [ints] using hown5, R.out.2.trans hb5⟩)
        clear hown5 hb5 HO
        go_wp2_with fail
        have e := HQ.out
        refine ⟨⟨k + 1, q + 2, by omega, by omega, by go_num, S.out⟩, by (first | (simp [intOf]; done) | (simp [intOf]; omega) | (simp only [intOf]; omega))⟩
    · go_wp2_with fail
      go_ret
      obtain ⟨hown, hbl⟩ := R.out
      rw [List.take_of_length_le (by rw [K.out]; have := HQ.out; omega)] at hown
      rw [← HM.out]
      exact ⟨⟨_, rfl, Rd.of_owns hown (by rw [K.out]; omega), own_cap hown⟩, hbl⟩
end Go.Proofs.Ythglgempbdaikaa
