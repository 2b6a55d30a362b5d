/- The law PathRounds returns true at every input, and its arguments read afterwards as they did before; no condition. The frame of this text is after the kit's proof-skeleton.mjs. -/
import Derived.Test.YthglgempbdaikaaRows
import Derived.Test.YthglgempbdaikaaPc2
import Derived.Test.YthglgempbdaikaaOpnS
import Derived.SizedLaws
import Derived.WalkKit
import Derived.ProofKit
import Derived.OpenShut
import Derived.ShutString
import Derived.ChangeOld
import Derived.Below
namespace Go.Proofs.Ythglgempbdaikaa.pathRounds
open Go.ChangeShapes Go.WideShapes Go.ChangeAt Go.RowKit Go.Deep
open Go.ChangeMaps (open_string shut_string)
set_option linter.unusedVariables false
theorem own : ownKnob Try.prog.godebug = none := by kernel_rfl
theorem laidOut : laidOutB Try.prog = true := by kernel_rfl
theorem bytes59 : Try.prog.bytesOf 59 = 56 := by kernel_rfl
theorem cells59 : Try.prog.cellsOf 59 = 7 := by kernel_rfl
theorem cells42 : Try.prog.cellsOf 42 = 2 := by kernel_rfl
theorem cells57 : Try.prog.cellsOf 57 = 3 * Try.prog.cellsOf 42 := by kernel_rfl
section
variable {H : Type} {enc : TypeId × Value → H} {w : World} {base : Nat} {spare : Nat → Bool} {held : Bool} {fuel : Nat} {cs : List Value} {x : DataW H × List MemPlace}
theorem allI_pt (h : DataW.trod enc Try.prog w base spare held fuel 42 cs = some x) : AllI cs :=
  allI_struct Try.underlying42 (fun i f hf => by
    match i, hf with
    | 0, hf => cases hf; exact ⟨rfl, by kernel_rfl, Try.underlying3⟩
    | 1, hf => cases hf; exact ⟨rfl, by kernel_rfl, Try.underlying3⟩
    | i + 2, hf => simp at hf) (by kernel_rfl) h
theorem len42 (h : DataW.trod enc Try.prog w base spare held fuel 42 cs = some x) : cs.length = Try.prog.cellsOf 42 := by
  obtain ⟨xs, n, _, _, hl, _⟩ := DataW.trod_struct Try.underlying42 h
  exact hl
theorem allI_a3p (h : DataW.trod enc Try.prog w base spare held fuel 57 cs = some x) : AllI cs := by
  refine allI_array (n := 3) (e := 42) Try.underlying57 ?_ cells57 (by rw [cells42]; omega) h
  intro fuel cs x h
  exact ⟨allI_pt h, len42 h⟩
set_option maxRecDepth 100000 in
theorem allI_step (h : DataW.trod enc Try.prog w base spare held fuel 59 cs = some x) : AllI cs := by
  obtain ⟨xs, n, _, hx, hl, hxs, hall⟩ := DataW.trod_struct Try.underlying59 h
  rw [cells59] at hl
  obtain ⟨c0, c1, c2, c3, c4, c5, c6, rfl⟩ : ∃ c0 c1 c2 c3 c4 c5 c6, cs = [c0, c1, c2, c3, c4, c5, c6] := by
    match cs, hl with
    | [c0, c1, c2, c3, c4, c5, c6], _ => exact ⟨c0, c1, c2, c3, c4, c5, c6, rfl⟩
  have e0 := hall 0 _ rfl
  have e1 := hall 1 _ rfl
  have hs : xs.length = 2 := hxs
  obtain ⟨x0, x1, rfl⟩ : ∃ x0 x1, xs = [x0, x1] := by
    match xs, hs with
    | [x0, x1], _ => exact ⟨x0, x1, rfl⟩
  have e0 : DataW.trod enc Try.prog w base spare held n 3 [c0] = some x0 := e0
  have e1 : DataW.trod enc Try.prog w base spare held n 57 [c1, c2, c3, c4, c5, c6] = some x1 := e1
  have a0 := allI_int Try.underlying3 e0
  have a1 := allI_a3p e1
  intro i hi
  match i, hi with
  | 0, hi => exact a0 0 (by simp)
  | i + 1, hi => exact a1 i (by simp at hi ⊢; omega)
end
theorem sts_of {W : World} {a : Option Addr} {n c : Nat} {F : Nat → Nat → Int} (l : n ≤ 281474976710656) (R : ∀ j, j < n → ∃ b off, a = some ⟨b, off, none⟩ ∧ b < W.heap.size ∧ RowI W b off 7 j (F j)) : Sts W (.slice a n c) n F := by
  refine ⟨a, c, rfl, l, fun h0 => ?_⟩
  obtain ⟨b, off, rfl, hb, _⟩ := R 0 h0
  refine ⟨b, off, rfl, fun j hj t ht => ?_⟩
  obtain ⟨b', off', e, _, hr⟩ := R j hj
  cases e
  exact hr t ht
set_option maxRecDepth 100000 in
theorem lifted (os : Os) (started : os.Started) (H : Type) (enc : TypeId × Value → H) :
    ReturnsInHanded {} Try.checked os 5 .any (Rows.pathRoundsSpec.pre6 enc Try.prog Try.f5 Rows.pathRoundsRow.domain false) (Rows.pathRoundsSpec.post enc Try.prog Try.f5 false true false false) := by
  refine returnsInHanded_of_change_sized (C := Try.checked) own started (by kernel_rfl) Try.func5
    (ChangeSpec.witness6 (enc := enc) (C := Try.checked) false ⟨#[], #[.slice none 0 0, .agg #[.int .i64 0, .int .i64 0]], []⟩ 8 (by kernel_rfl) (by kernel_rfl) (by kernel_rfl) (by kernel_rfl)) ?_
  intro W base args ds gs before hval0 hW hcnd hsz0 _
  have hsz : (DataW.weightsEach Try.prog (Try.f5.params.toList ++ Rows.pathRoundsSpec.plain.varTypes Try.prog) (ds ++ gs)).all (· ≤ reachBytes) = true := hsz0
  clear hsz0
  have hval : ∀ (j : Nat) t v, Try.f5.params[j]? = some t → args[j]? = some v → Value.okWide Try.prog W .any base t v := hval0
  have hW' := hW
  obtain ⟨p, q, hA0, hV, rfl, hfz, hnd⟩ := hW
  have hA : DataW.TrodAll enc Try.prog W 0 (fun _ => true) true Try.f5.params.toList args.toList ds p := hA0
  rw [Try.params5] at hA hval hsz
  obtain ⟨v0, vs0, d0, ds0, p0, q0, hargs, rfl, rfl, h0, r0⟩ := trodAll_cons hA
  obtain ⟨v1, vs1, d1, ds1, p1, q1, rfl, rfl, rfl, h1, r1⟩ := trodAll_cons r0
  obtain ⟨rfl, rfl, rfl⟩ := trodAll_nil r1
  obtain rfl : args = #[v0, v1] := by cases args; simp_all
  obtain ⟨rfl, rfl⟩ := trodVars_none hV
  have k0 := h0
  have lt0 : ∀ x ∈ p0, x.block < W.heap.size := by obtain ⟨m, hm⟩ := k0; exact DataW.trod_lt m _ _ _ hm
  obtain ⟨s0, n0, c0, rfl⟩ := okWide_slice Try.underlying28 (hval 0 28 v0 rfl rfl)
  obtain ⟨fu0, hf0⟩ := h0
  obtain ⟨l0, F0, R0⟩ := slice_rows (s := 7) Try.underlying28 cells59 (by omega) allI_step (by simpa [Value.cells] using hf0)
  have k1 := h1
  have lt1 : ∀ x ∈ p1, x.block < W.heap.size := by obtain ⟨m, hm⟩ := k1; exact DataW.trod_lt m _ _ _ hm
  obtain ⟨cs1, rfl, sz1⟩ := agg_of (.inl ⟨_, Try.underlying42⟩) (hval 1 42 v1 rfl rfl)
  obtain ⟨fu1, hf1⟩ := h1
  have ai1 := allI_pt hf1
  obtain ⟨x1, y1, rfl, wx1, wy1⟩ := cells2 (sz1.trans (by kernel_rfl)) ai1
  have bd : n0 * 56 ≤ 140737488351232 := by
    rcases open_slice (cs := [.slice s0 n0 c0]) Try.underlying28 (by simpa [Value.cells] using hf0) with ⟨e, _⟩ | ⟨aa, ll, cc, m, nn, D, Pl, e, _, _, _, _, hx, _⟩
    · simp at e
      omega
    · simp at e
      obtain ⟨_, rfl, _⟩ := e
      obtain ⟨rfl, _⟩ := Prod.mk.inj hx
      have hz := sized_slice hsz (j := 0) (t := 28) (e := 59) rfl rfl Try.underlying28
      rw [bytes59] at hz
      simp only [List.length_map, List.length_range, reachBytes] at hz
      omega
  clear hA0 hval0
  refine (rounds_any (.slice s0 n0 c0) n0 F0 x1 y1 W (sts_of (by omega) R0)).mono fun e W' ⟨he, bel⟩ => ?_
  subst he
  exact ⟨_, rfl, _, _, _, [], _, [], hW', trodAll_mk1 (shut_bool Try.underlying4 _), (trodAll_cons_mk (Below.trod laidOut (by kernel_rfl) (of_decide_eq_true (by kernel_rfl)) k0 bel lt0) (trodAll_cons_mk (Below.trod laidOut (by kernel_rfl) (of_decide_eq_true (by kernel_rfl)) k1 bel lt1) trodAll_mk0)), rfl, bel.frame _, fun h => by cases h⟩
theorem over : Rows.pathRoundsRow.holds Try.pinned (OpenSpec.ofChange Rows.pathRoundsSpec) :=
  OpenClaim.holds_of_wide 5 Try.f5 rfl rfl rfl rfl rfl rfl rfl ⟨rfl, rfl, rfl, rfl, rfl⟩ rfl rfl rfl rfl rfl (by kernel_rfl) Try.func5 (by kernel_rfl)
    (of_decide_eq_true (by kernel_rfl)) (by unfold Func.isWrapper; first | (rw [if_pos (by decide +kernel)]; kernel_rfl) | (rw [if_neg (by decide +kernel)]; exact ⟨rfl, rfl⟩))
    (fun os started H enc _ => lifted os started H enc)
theorem proved : Rows.PathRoundsSaid := over
#print axioms proved
end Go.Proofs.Ythglgempbdaikaa.pathRounds
