/- How arguments read whose cells are all ints: structs of ints, arrays of ints or of such structs. -/
import Derived.ProofKit
import Derived.OpenShut
import Derived.ChangeOld
namespace Go.Proofs.Ythglgempbdaikaa
open Go.ChangeShapes Go.WideShapes Go.ChangeAt Go.RowKit

def AllI (cs : List Value) : Prop := ∀ (i : Nat) (h : i < cs.length), ∃ n, cs[i] = .int .i64 n ∧ (Lit.int .i64 n).wf = true
section
variable {H : Type} {enc : TypeId × Value → H} {P : Program} {w : World} {base : Nat} {spare : Nat → Bool} {held : Bool}

theorem allI_int {t : TypeId} (ht : P.underlying t = some (.int .i64)) {fuel : Nat} {cs : List Value} {x : DataW H × List MemPlace} (h : DataW.trod enc P w base spare held fuel t cs = some x) : AllI cs := by
  obtain ⟨n, rfl, _, hw⟩ := DataW.trod_int ht h
  intro i hi
  obtain rfl : i = 0 := by simpa using hi
  exact ⟨n, rfl, hw⟩
theorem allI_struct {t : TypeId} {fs : Array Field} (ht : P.underlying t = some (.struct fs)) (hf : ∀ (i : Nat) (f : Field), fs[i]? = some f → f.offset = i ∧ P.cellsOf f.type = 1 ∧ P.underlying f.type = some (.int .i64)) (hc : P.cellsOf t = fs.size)
    {fuel : Nat} {cs : List Value} {x : DataW H × List MemPlace} (h : DataW.trod enc P w base spare held fuel t cs = some x) : AllI cs := by
  obtain ⟨xs, n, _, _, hl, hxs, hall⟩ := DataW.trod_struct ht h
  intro i hi
  have hi' : i < fs.size := by omega
  obtain ⟨ho, h1, hu⟩ := hf i fs[i] (Array.getElem?_eq_getElem hi')
  have hx := hall i fs[i] (Array.getElem?_eq_getElem hi')
  rw [ho, h1, List.getElem?_eq_getElem (by omega)] at hx
  obtain ⟨m, hm, _, hw⟩ := DataW.trod_int hu hx
  have h0 : (List.take 1 (List.drop i cs))[0]? = some (Value.int .i64 m) := by rw [hm]; rfl
  simp [hi] at h0
  exact ⟨m, h0, hw⟩
theorem allI_array {t : TypeId} {n : Nat} {e : TypeId} (ht : P.underlying t = some (.array n e)) (he : ∀ {fuel : Nat} {cs : List Value} {x : DataW H × List MemPlace}, DataW.trod enc P w base spare held fuel e cs = some x → AllI cs ∧ cs.length = P.cellsOf e)
    (hc : P.cellsOf t = n * P.cellsOf e) (hp : 0 < P.cellsOf e) {fuel : Nat} {cs : List Value} {x : DataW H × List MemPlace} (h : DataW.trod enc P w base spare held fuel t cs = some x) : AllI cs := by
  obtain ⟨xs, m, _, _, hl, hxs, hall⟩ := DataW.trod_array ht h
  intro i hi
  rw [hl, hc] at hi
  have hq : i / P.cellsOf e < n := Nat.div_lt_of_lt_mul (by rw [Nat.mul_comm]; exact hi)
  have hr : i % P.cellsOf e < P.cellsOf e := Nat.mod_lt _ hp
  have hx := hall (i / P.cellsOf e) hq
  rw [List.getElem?_eq_getElem (by omega)] at hx
  obtain ⟨ha, hlen⟩ := he hx
  obtain ⟨k, hk, hw⟩ := ha (i % P.cellsOf e) (by omega)
  refine ⟨k, ?_, hw⟩
  rw [← hk]
  simp only [List.getElem_take, List.getElem_drop]
  congr 1
  have := Nat.div_add_mod i (P.cellsOf e)
  rw [Nat.mul_comm] at this
  omega

/-- two cells, six cells, and so on, of an argument by value -/
theorem cells2 {cs : Array Value} (h : cs.size = 2) (ha : AllI cs.toList) : ∃ x y : Int, cs = #[.int .i64 x, .int .i64 y] ∧ (Lit.int .i64 x).wf = true ∧ (Lit.int .i64 y).wf = true := by
  obtain ⟨l⟩ := cs
  match l, h with
  | [c0, c1], _ =>
    obtain ⟨x, hx, wx⟩ := ha 0 (by simp)
    obtain ⟨y, hy, wy⟩ := ha 1 (by simp)
    simp at hx hy
    exact ⟨x, y, by rw [hx, hy], wx, wy⟩
theorem cells6 {cs : Array Value} (h : cs.size = 6) (ha : AllI cs.toList) : ∃ a b c d e f : Int, cs = #[.int .i64 a, .int .i64 b, .int .i64 c, .int .i64 d, .int .i64 e, .int .i64 f] := by
  obtain ⟨l⟩ := cs
  match l, h with
  | [c0, c1, c2, c3, c4, c5], _ =>
    obtain ⟨x0, h0, _⟩ := ha 0 (by simp)
    obtain ⟨x1, h1, _⟩ := ha 1 (by simp)
    obtain ⟨x2, h2, _⟩ := ha 2 (by simp)
    obtain ⟨x3, h3, _⟩ := ha 3 (by simp)
    obtain ⟨x4, h4, _⟩ := ha 4 (by simp)
    obtain ⟨x5, h5, _⟩ := ha 5 (by simp)
    simp at h0 h1 h2 h3 h4 h5
    exact ⟨x0, x1, x2, x3, x4, x5, by rw [h0, h1, h2, h3, h4, h5]⟩
theorem cells8 {cs : Array Value} (h : cs.size = 8) (ha : AllI cs.toList) : ∃ a b c d e f g i : Int, cs = #[.int .i64 a, .int .i64 b, .int .i64 c, .int .i64 d, .int .i64 e, .int .i64 f, .int .i64 g, .int .i64 i] := by
  obtain ⟨l⟩ := cs
  match l, h with
  | [c0, c1, c2, c3, c4, c5, c6, c7], _ =>
    obtain ⟨x0, h0, _⟩ := ha 0 (by simp)
    obtain ⟨x1, h1, _⟩ := ha 1 (by simp)
    obtain ⟨x2, h2, _⟩ := ha 2 (by simp)
    obtain ⟨x3, h3, _⟩ := ha 3 (by simp)
    obtain ⟨x4, h4, _⟩ := ha 4 (by simp)
    obtain ⟨x5, h5, _⟩ := ha 5 (by simp)
    obtain ⟨x6, h6, _⟩ := ha 6 (by simp)
    obtain ⟨x7, h7, _⟩ := ha 7 (by simp)
    simp at h0 h1 h2 h3 h4 h5 h6 h7
    exact ⟨x0, x1, x2, x3, x4, x5, x6, x7, by rw [h0, h1, h2, h3, h4, h5, h6, h7]⟩
/-- a value of a struct or an array type -/
theorem agg_of {t : TypeId} {r : Reach} {b0 : Nat} {v : Value} (ht : (∃ fs, P.underlying t = some (.struct fs)) ∨ (∃ n e, P.underlying t = some (.array n e))) (hv : Value.okWide P w r b0 t v) : ∃ cs, v = .agg cs ∧ cs.size = P.cellsOf t := by
  rcases ht with ⟨fs, ht⟩ | ⟨n, e, ht⟩
  · exact okWide_struct ht hv
  · simp only [Value.okWide, ht] at hv
    obtain ⟨cs, h1, h2, _⟩ := hv
    exact ⟨cs, h1, h2⟩
end
end Go.Proofs.Ythglgempbdaikaa
