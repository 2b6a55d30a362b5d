/- Contracts of package bez: Quad, Cube; lives of the law. -/
import Derived.Test.YthglgempbdaikaaBez4
namespace Go.Proofs.Ythglgempbdaikaa
open Go.RowKit

def quadX (l : Nat → Int) (j : Nat) : Int := l (j * 2)
def quadY (l : Nat → Int) (j : Nat) : Int := l (j * 2 + 1)
theorem CurvePost.below {X Y : Nat → Int} {m : Nat} {w w1 w2 : World} {e : Ending} (h : CurvePost X Y m w1 e w2) (hb : Below w.heap.size w w1) : CurvePost X Y m w e w2 := by
  refine ⟨hb.trans (h.1.mono hb.size), ?_⟩
  rcases h.2 with h | ⟨hf, v, he, hr⟩
  · exact Or.inl h
  · exact Or.inr ⟨hf, v, he, hr.low hb.size⟩
theorem cell_new_at {w : World} {cs : Array Value} {e : TypeId} {b k : Nat} (h : b = w.heap.size) : (w.alloc (.cells cs e)).cell? ⟨b, k, none⟩ = cs[k]? := by subst h; rw [World.cell?_alloc_new]
/-- what Quad and Cube hand back: l the points' parts, one behind the other -/
theorem quad_any (l : Nat → Int) (w : World) : Calls Try.prog 46 #[.agg #[.int .i64 (l 0), .int .i64 (l 1)], .agg #[.int .i64 (l 2), .int .i64 (l 3)], .agg #[.int .i64 (l 4), .int .i64 (l 5)]] w (CurvePost (quadX l) (quadY l) 3 w) := by
  go_enter Try.func46, Try.ntmps46
  go_wp2_with fail
  refine (curve_any _ 0 3 3 (quadX l) (quadY l) _ (Or.inl rfl) ?pt).mono ?_
  case pt =>
    intro j hj
    have h4 : j = 0 ∨ j = 1 ∨ j = 2 := by omega
    rcases h4 with rfl | rfl | rfl <;> exact ⟨(cell_new_at (by simp)).trans rfl, (cell_new_at (by simp)).trans rfl⟩
  intro e w1 h
  have h' := h.below (w := w) (by ((repeat' (first | with_reducible exact Below.refl _ _ | with_reducible assumption | with_reducible refine Below.drew ?_ | with_reducible refine Below.alloc ?_ ?_ _ | with_reducible refine Below.setCell ?_ ?_ _)) <;> (first | omega | (simp; done) | (simp; omega))))
  clear h
  rcases h' with ⟨hb, ⟨hz, rfl⟩ | ⟨hf, v, rfl, hr⟩⟩
  · have HB := Lib.hid hb
    have HZ := Lib.hid hz
    clear hb hz
    go_wp2_with fail
    refine bodyPost_ret (v := .tuple #[.slice none 0 0, .int .i64 4]) ?_ rfl ⟨HB.out, Or.inl ⟨HZ.out, rfl⟩⟩
    simp [results, Try.results46, go_sem]
  · have HB := Lib.hid hb
    have HF := Lib.hid hf
    have HR := Lib.hid hr
    clear hb hf hr
    go_wp2_with fail
    refine bodyPost_ret (v := .tuple #[v, .int .i64 0]) ?_ rfl ⟨HB.out, Or.inr ⟨HF.out, v, rfl, HR.out⟩⟩
    simp [results, Try.results46, go_sem]
theorem cube_any (l : Nat → Int) (w : World) : Calls Try.prog 47 #[.agg #[.int .i64 (l 0), .int .i64 (l 1)], .agg #[.int .i64 (l 2), .int .i64 (l 3)], .agg #[.int .i64 (l 4), .int .i64 (l 5)], .agg #[.int .i64 (l 6), .int .i64 (l 7)]] w (CurvePost (quadX l) (quadY l) 4 w) := by
  go_enter Try.func47, Try.ntmps47
  go_wp2_with fail
  refine (curve_any _ 0 4 4 (quadX l) (quadY l) _ (Or.inr rfl) ?pt).mono ?_
  case pt =>
    intro j hj
    have h4 : j = 0 ∨ j = 1 ∨ j = 2 ∨ j = 3 := by omega
    rcases h4 with rfl | rfl | rfl | rfl <;> exact ⟨(cell_new_at (by simp)).trans rfl, (cell_new_at (by simp)).trans rfl⟩
  intro e w1 h
  have h' := h.below (w := w) (by ((repeat' (first | with_reducible exact Below.refl _ _ | with_reducible assumption | with_reducible refine Below.drew ?_ | with_reducible refine Below.alloc ?_ ?_ _ | with_reducible refine Below.setCell ?_ ?_ _)) <;> (first | omega | (simp; done) | (simp; omega))))
  clear h
  rcases h' with ⟨hb, ⟨hz, rfl⟩ | ⟨hf, v, rfl, hr⟩⟩
  · have HB := Lib.hid hb
    have HZ := Lib.hid hz
    clear hb hz
    go_wp2_with fail
    refine bodyPost_ret (v := .tuple #[.slice none 0 0, .int .i64 4]) ?_ rfl ⟨HB.out, Or.inl ⟨HZ.out, rfl⟩⟩
    simp [results, Try.results47, go_sem]
  · have HB := Lib.hid hb
    have HF := Lib.hid hf
    have HR := Lib.hid hr
    clear hb hf hr
    go_wp2_with fail
    refine bodyPost_ret (v := .tuple #[v, .int .i64 0]) ?_ rfl ⟨HB.out, Or.inr ⟨HF.out, v, rfl, HR.out⟩⟩
    simp [results, Try.results47, go_sem]
end Go.Proofs.Ythglgempbdaikaa
