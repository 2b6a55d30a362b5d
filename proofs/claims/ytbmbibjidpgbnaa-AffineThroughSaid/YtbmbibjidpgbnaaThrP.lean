/- The law AffineThrough returns true at every input, and its arguments read afterwards as they did before; no condition. The frame of this text is after the kit's proof-skeleton.mjs. -/
import Derived.Test.YtbmbibjidpgbnaaRows
import Derived.Test.YtbmbibjidpgbnaaThr6
import Derived.Test.YtbmbibjidpgbnaaOpn1
import Derived.Test.YtbmbibjidpgbnaaOpn2
import Derived.Test.YtbmbibjidpgbnaaOpnS
import Derived.SizedLaws
import Derived.WalkKit
import Derived.ProofKit
import Derived.OpenShut
import Derived.ShutString
import Derived.ChangeOld
import Derived.Below
namespace Go.Proofs.Ytbmbibjidpgbnaa.affineThrough
open Go.ChangeShapes Go.WideShapes Go.ChangeAt Go.RowKit Go.Deep
open Go.ChangeMaps (open_string shut_string)
set_option linter.unusedVariables false
theorem own : ownKnob Try.prog.godebug = none := by kernel_rfl
theorem laidOut : laidOutB Try.prog = true := by kernel_rfl
theorem bytes25 : Try.prog.bytesOf 25 = 16 := by kernel_rfl
theorem maps_of {W : World} {a : Option Addr} {n c : Nat} {F : Nat → Nat → Int} (l : n ≤ 9223372036854775807) (R : ∀ j, j < n → ∃ b off, a = some ⟨b, off, none⟩ ∧ b < W.heap.size ∧ RowI W b off 6 j (F j)) :
    Maps W.heap.size W (.slice a n c) n (fun j => ⟨F j 0, F j 1, F j 2, F j 3, F j 4, F j 5⟩) := by
  refine ⟨a, c, rfl, l, fun h0 => ?_⟩
  obtain ⟨b, off, rfl, hb, _⟩ := R 0 h0
  refine ⟨b, off, rfl, hb, fun j hj => ?_⟩
  obtain ⟨b', off', e, _, hr⟩ := R j hj
  cases e
  exact ⟨hr 0 (by omega), hr 1 (by omega), hr 2 (by omega), hr 3 (by omega), hr 4 (by omega), hr 5 (by omega)⟩
theorem pts_of {W : World} {a : Option Addr} {n c : Nat} {F : Nat → Nat → Int} (l : n ≤ 281474976710656) (R : ∀ j, j < n → ∃ b off, a = some ⟨b, off, none⟩ ∧ b < W.heap.size ∧ RowI W b off 2 j (F j)) :
    Pts W (.slice a n c) n (fun j => F j 0) (fun j => F j 1) := by
  refine ⟨a, c, rfl, l, fun h0 => ?_⟩
  obtain ⟨b, off, rfl, hb, _⟩ := R 0 h0
  refine ⟨b, off, rfl, fun j hj => ?_⟩
  obtain ⟨b', off', e, _, hr⟩ := R j hj
  cases e
  exact ⟨hr 0 (by omega), hr 1 (by omega)⟩
set_option maxRecDepth 100000 in
theorem lifted (os : Os) (started : os.Started) (H : Type) (enc : TypeId × Value → H) :
    ReturnsInHanded {} Try.checked os 6 .any (Rows.affineThroughSpec.pre6 enc Try.prog Try.f6 Rows.affineThroughRow.domain false) (Rows.affineThroughSpec.post enc Try.prog Try.f6 false true false false) := by
  refine returnsInHanded_of_change_sized (C := Try.checked) own started (by kernel_rfl) Try.func6
    (ChangeSpec.witness6 (enc := enc) (C := Try.checked) false ⟨#[], #[.slice none 0 0, .slice none 0 0], []⟩ 8 (by kernel_rfl) (by kernel_rfl) (by kernel_rfl) (by kernel_rfl)) ?_
  intro W base args ds gs before hval0 hW hcnd hsz0 _
  have hsz : (DataW.weightsEach Try.prog (Try.f6.params.toList ++ Rows.affineThroughSpec.plain.varTypes Try.prog) (ds ++ gs)).all (· ≤ reachBytes) = true := hsz0
  clear hsz0
  have hval : ∀ (j : Nat) t v, Try.f6.params[j]? = some t → args[j]? = some v → Value.okWide Try.prog W .any base t v := hval0
  have hW' := hW
  obtain ⟨p, q, hA0, hV, rfl, hfz, hnd⟩ := hW
  have hA : DataW.TrodAll enc Try.prog W 0 (fun _ => true) true Try.f6.params.toList args.toList ds p := hA0
  rw [Try.params6] at hA hval hsz
  obtain ⟨v0, vs0, d0, ds0, p0, q0, hargs, rfl, rfl, h0, r0⟩ := trodAll_cons hA
  obtain ⟨v1, vs1, d1, ds1, p1, q1, rfl, rfl, rfl, h1, r1⟩ := trodAll_cons r0
  obtain ⟨rfl, rfl, rfl⟩ := trodAll_nil r1
  obtain rfl : args = #[v0, v1] := by cases args; simp_all
  obtain ⟨rfl, rfl⟩ := trodVars_none hV
  have k0 := h0
  have lt0 : ∀ x ∈ p0, x.block < W.heap.size := by obtain ⟨m, hm⟩ := k0; exact DataW.trod_lt m _ _ _ hm
  obtain ⟨s0, n0, c0, rfl⟩ := okWide_slice Try.underlying45 (hval 0 45 v0 rfl rfl)
  obtain ⟨fu0, hf0⟩ := h0
  obtain ⟨l0, F0, R0⟩ := slice_rows (s := 6) Try.underlying45 Rd1.cells23 (by omega) Rd1.allI_map (by simpa [Value.cells] using hf0)
  have k1 := h1
  have lt1 : ∀ x ∈ p1, x.block < W.heap.size := by obtain ⟨m, hm⟩ := k1; exact DataW.trod_lt m _ _ _ hm
  obtain ⟨s1, n1, c1, rfl⟩ := okWide_slice Try.underlying47 (hval 1 47 v1 rfl rfl)
  obtain ⟨fu1, hf1⟩ := h1
  obtain ⟨l1, F1, R1⟩ := slice_rows (s := 2) Try.underlying47 Rd1.cells25 (by omega) Rd1.allI_pt (by simpa [Value.cells] using hf1)
  have bd : n1 * 16 ≤ 140737488351232 := by
    rcases open_slice (cs := [.slice s1 n1 c1]) Try.underlying47 (by simpa [Value.cells] using hf1) with ⟨e, _⟩ | ⟨aa, ll, cc, m, nn, D, Pl, e, _, _, _, _, hx, _⟩
    · simp at e
      omega
    · simp at e
      obtain ⟨_, rfl, _⟩ := e
      obtain ⟨rfl, _⟩ := Prod.mk.inj hx
      have hz := sized_slice hsz (j := 1) (t := 47) (e := 25) rfl rfl Try.underlying47
      rw [bytes25] at hz
      simp only [List.length_map, List.length_range, reachBytes] at hz
      omega
  clear hA0 hval0
  refine (thru_law s0 n0 c0 (fun j => ⟨F0 j 0, F0 j 1, F0 j 2, F0 j 3, F0 j 4, F0 j 5⟩) (.slice s1 n1 c1) n1 (fun j => F1 j 0) (fun j => F1 j 1) W (by omega) (maps_of l0 R0) (pts_of (by omega) R1)).mono fun e W' ⟨he, bel⟩ => ?_
  subst he
  exact ⟨_, rfl, _, _, _, [], _, [], hW', trodAll_mk1 (shut_bool Try.underlying4 _), (trodAll_cons_mk (Below.trod laidOut (by kernel_rfl) (of_decide_eq_true (by kernel_rfl)) k0 bel lt0) (trodAll_cons_mk (Below.trod laidOut (by kernel_rfl) (of_decide_eq_true (by kernel_rfl)) k1 bel lt1) trodAll_mk0)), rfl, bel.frame _, fun h => by cases h⟩
theorem over : Rows.affineThroughRow.holds Try.pinned (OpenSpec.ofChange Rows.affineThroughSpec) :=
  OpenClaim.holds_of_wide 6 Try.f6 rfl rfl rfl rfl rfl rfl rfl ⟨rfl, rfl, rfl, rfl, rfl⟩ rfl rfl rfl rfl rfl (by kernel_rfl) Try.func6 (by kernel_rfl)
    (of_decide_eq_true (by kernel_rfl)) (by unfold Func.isWrapper; first | (rw [if_pos (by decide +kernel)]; kernel_rfl) | (rw [if_neg (by decide +kernel)]; exact ⟨rfl, rfl⟩))
    (fun os started H enc _ => lifted os started H enc)
theorem proved : Rows.AffineThroughSaid := over
#print axioms proved
end Go.Proofs.Ytbmbibjidpgbnaa.affineThrough
