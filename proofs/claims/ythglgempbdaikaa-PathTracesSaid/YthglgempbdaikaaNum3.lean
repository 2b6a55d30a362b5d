/- Contracts of the reference's numbers: Half, Words. -/
import Derived.Test.YthglgempbdaikaaNum2
import Derived.Deep.RegionLaw
import Derived.Deep.AppendLies
namespace Go.Proofs.Ythglgempbdaikaa
open Go.RowKit

theorem Try.info137 : (Try.prog.info? 137).map (fun i => (i.zero, i.size, i.bytes)) = some (some (.int .u64 0), 1, 8) := by kernel_rfl
theorem Try.underlying141 : Try.prog.underlying 141 = some (.slice 137) := by kernel_rfl
theorem Try.info123 : (Try.prog.info? 123).map (fun i => (i.zero, i.size, i.bytes)) = some (some (.int .u32 0), 1, 4) := by kernel_rfl
theorem Try.underlying101 : Try.prog.underlying 101 = some (.slice 123) := by kernel_rfl
/-- two digits of 16 bits for each word -/
def halves : List Nat → List Nat
  | [] => []
  | x :: l => x % 65536 :: x / 65536 :: halves l
theorem val_halves (l : List Nat) : val 65536 (halves l) = val 4294967296 l := by
  induction l with
  | nil => rfl
  | cons x l ih => simp only [halves, val, ih]; omega
theorem halves_lt (l : List Nat) (h : ∀ x ∈ l, x < 4294967296) : ∀ x ∈ halves l, x < 65536 := by
  induction l with
  | nil => intro x hx; cases hx
  | cons y l ih =>
    have h1 := h y (List.mem_cons_self ..)
    intro x hx
    simp only [halves, List.mem_cons] at hx
    rcases hx with rfl | rfl | hx
    · omega
    · omega
    · exact ih (fun z hz => h z (List.mem_cons_of_mem _ hz)) x hx
theorem halves_app (l m : List Nat) : halves (l ++ m) = halves l ++ halves m := by
  induction l with
  | nil => rfl
  | cons x l ih => simp [halves, ih]
theorem halves_length (l : List Nat) : (halves l).length = 2 * l.length := by
  induction l with
  | nil => rfl
  | cons x l ih => simp [halves, ih]; omega
/-- a row of words, a row of digits, which read as a number, without noughts at the top -/
def Nt (w : World) (v : Value) (a : Nat) : Prop := Rd .u32 w v (dg 4294967296 a) ∧ CapOk v
def Dg (w : World) (v : Value) (a : Nat) : Prop := Rd .u64 w v (dg 65536 a) ∧ CapOk v
def HRel (l : List Nat) (w wr : World) (v : Value) (k : Nat) : Prop := wr.ownsRow w.heap.size 137 1 v (2 * k) (ints .u64 (halves (l.take k))) ∧ Below w.heap.size w wr
set_option maxRecDepth 100000 in
set_option maxHeartbeats 1600000 in
theorem half_any (v : Value) (n : Nat) (w : World) (hlen : (dg 4294967296 n).length ≤ 1000) (h : Nt w v n) : Calls Try.prog 84 #[v] w fun e w' => (∃ v', e = .returned v' ∧ Dg w' v' n) ∧ Below w.heap.size w w' := by
  obtain ⟨i0, hi, hz0, hz1, hz2⟩ := info_parts Try.info137
  obtain ⟨⟨a, cap, rfl, hl, hc⟩, _, _, _, hv, hcp⟩ := h
  cases hv
  obtain ⟨l, hl0⟩ : ∃ l, l = dg 4294967296 n := ⟨_, rfl⟩
  rw [← hl0] at hl hc hcp hlen ⊢
  have HL := Lib.hid hl0
  have C := Lib.hid hc
  clear hl0 hc
  go_enter Try.func84, Try.ntmps84
  go_wp2_with fail
  go_loopw [3, 4] (fun v i wr => ∃ k : Nat, k ≤ l.length ∧ i = .int .i64 k ∧ HRel l w wr v k) (fun _ i _ => l.length - (intOf i).toNat)
  case atStart => exact ⟨0, by omega, rfl, World.ownsRow_nil _ _ _ _, Below.refl _ _⟩
  case round =>
    obtain ⟨k, hk, rfl, hrel⟩ := hrel
    have R := Lib.hid hrel
    clear hrel
    by_cases hlt : k < l.length
    · obtain ⟨g, off, rfl, hcc⟩ := C.out (by omega)
      have c := cell_later R.out.2 (hcc k hlt)
      clear hcc
      obtain ⟨x, hx⟩ : ∃ x : Nat, x = l.getD k 0 := ⟨_, rfl⟩
      rw [← hx] at c
      have hxm : x < 4294967296 := by
        rw [hx, HL.out]
        rw [dg_getD (by omega)]
        exact Nat.mod_lt _ (by omega)
      have X := Lib.hid hx
      clear hx
      go_wp2_with fail
      have hown := R.out.1
      have hsz := R.out.2.size
      have r3 : IntKind.u64.wrap (IntKind.u32.wrap ((x : Int) / 65536)) = (x : Int) / 65536 := by
        rw [IntWalk.u32_in _ (by omega), IntWalk.u64_in _ (by omega)]
      have r1 : IntKind.u64.wrap ((x : Int).tmod 65536) = (x : Int) % 65536 := by rw [Int.tmod_eq_emod_of_nonneg (by omega), IntWalk.u64_in _ (by omega)]
      have r5 : IntKind.u32.wrap ((x : Int) / 65536) = (x : Int) / 65536 := IntWalk.u32_in _ (by omega)
      have r6 : IntKind.u64.wrap ((x : Int) / 65536) = (x : Int) / 65536 := IntWalk.u64_in _ (by omega)
      have r7 : (x : Int).tdiv 65536 = (x : Int) / 65536 := Int.tdiv_eq_ediv_of_nonneg (by omega)
      have hsnoc : halves (l.take (k + 1)) = halves (l.take k) ++ [x % 65536, x / 65536] := by
        have e : l.take (k + 1) = l.take k ++ [x] := by
          rw [List.take_add_one, List.getElem?_eq_getElem hlt]
          have := X.out
          rw [List.getD_eq_getElem?_getD, List.getElem?_eq_getElem hlt] at this
          simp at this
          rw [this]; rfl
        rw [e, halves_app]; rfl
      have HS := Lib.hid hsnoc
      clear hsnoc
      have hb0 := Lib.hid R.out.2
      go_region_law (go_loud (refine step_append_lies _ rfl (.tmp 11) (.tmp 24) 141 rfl w.heap.size 137 i0 (.int .u64 0) 1 8 Try.underlying141 hi hz0 hz1 hz2 rfl (by decide) _ (2 * k) _ (by rfl) (World.ownsRow.alloc (w := wr.drew) hown.drew _) ⟨wr.heap.size, 0, none⟩ 2 2 [.int .u64 ((x : Int) % 65536), .int .u64 ((x : Int) / 65536)] (by rfl) rfl (by (try simp only [r1, r3, r5, r6, r7]); exact news_at wr _ 137) (by simp [Value.oneCell']) (by omega) (by unfold maxLen; omega) (by omega) (by simp; omega) (wr.heap.size + 1) (by simp) ?_); intro g' cap' w5 own5 gr5 hg5 lt5; have S := Lib.hid (show HRel l w w5 (.slice (some ⟨g', 0, none⟩) (2 * k + 2) cap') (k + 1) from ⟨by rw [HS.out]; simpa [ints, Nat.mul_add] using own5, (((hb0.out.alloc hsz _).drew).grown gr5 (by simp; omega) (fun k hk => (hown.lt k hk).1))⟩); clear own5 gr5 hg5)
      all_goals (go_wp2_with fail)
      all_goals (go_roundw; (case rel => exact ⟨k + 1, by omega, by go_num, S.out⟩); (case measure => simp [intOf]; omega))
    · obtain rfl : k = l.length := by omega
      obtain ⟨hown, hbl⟩ := R.out
      rw [List.take_length] at hown
      have hrd : Rd .u64 wr u3 (halves l) := Rd.of_owns hown (by rw [halves_length]; omega)
      have hcap3 : CapOk u3 := by
        rcases hown.2 with ⟨rfl, _⟩ | ⟨g, cap, cur, rfl, _, _, hc, _⟩
        · exact ⟨none, 0, 0, rfl, by omega⟩
        · exact ⟨_, _, _, rfl, hc⟩
      have hlt3 : ∀ x ∈ halves l, x < 65536 := halves_lt l (by rw [HL.out]; exact dg_lt (by omega) n)
      have hval : val 65536 (halves l) = n := by rw [val_halves, HL.out, val_dg (by omega)]
      have HR := Lib.hid (And.intro hrd (And.intro hcap3 (And.intro hlt3 (And.intro hval hbl))))
      clear hown hbl hrd hcap3 hlt3 hval R
      go_wp2_with fail
      refine (cut_any u3 (halves l) wr HR.out.2.2.1 HR.out.1 HR.out.2.1).mono ?_
      rintro e w' ⟨⟨v', rfl, hv'⟩, rfl⟩
      rw [HR.out.2.2.2.1] at hv'
      have HV := Lib.hid hv'
      clear hv'
      go_wp2_with fail
      go_ret
      exact ⟨⟨v', rfl, HV.out⟩, HR.out.2.2.2.2⟩
end Go.Proofs.Ythglgempbdaikaa
