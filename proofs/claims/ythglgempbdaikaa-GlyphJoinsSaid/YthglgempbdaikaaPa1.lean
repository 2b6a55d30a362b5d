/- Contracts of package path: Uses, right, check. -/
import Derived.Test.YthglgempbdaikaaPa0
namespace Go.Proofs.Ythglgempbdaikaa
open Go.RowKit

/-- a block of ours whose first cells are cs -/
def BxAt (w : World) (g : Nat) (cs : List Value) : Prop := g < w.heap.size ∧ (∀ k, w.frozen? ⟨g, k, none⟩ = false) ∧ ∀ k u, cs[k]? = some u → w.cell? ⟨g, k, none⟩ = some u
theorem BxAt.later {w w1 : World} {g : Nat} {cs : List Value} (h : BxAt w g cs) (hb : Below w.heap.size w w1) : BxAt w1 g cs :=
  ⟨Nat.lt_of_lt_of_le h.1 hb.size, fun k => frozen_later hb h.1 (h.2.1 k), fun k u hu => cell_later hb (h.2.2 k u hu)⟩
theorem BxAt.new (w : World) (cs : List Value) (t : TypeId) : BxAt (w.alloc (.cells cs.toArray t)) w.heap.size cs :=
  ⟨by simp, fun k => by simp [go_sem], fun k u hu => by rw [World.cell?_alloc_new]; simpa using hu⟩
theorem below_alloc (w : World) (o : Obj) : Below w.heap.size w (w.alloc o) := (Below.refl _ _).alloc (Nat.le_refl _) _
theorem bthen {w w1 w2 : World} (h : Below w.heap.size w w1) (k : Below w1.heap.size w1 w2) : Below w.heap.size w w2 := h.trans (k.mono h.size)
theorem bel_drew {m : Nat} {W W1 : World} (h : Below m W.drew W1) : Below m W W1 := ⟨h.os, h.tape, h.output, h.size, h.block⟩
theorem bel2 (w : World) (o o2 : Obj) : Below w.heap.size w ((w.alloc o).alloc o2) := bthen (below_alloc w o) (below_alloc _ o2)
theorem BxAt.other {w : World} {g : Nat} {cs : List Value} (h : BxAt w g cs) (i k : Nat) (x u : Value) (hne : i ≠ k) (hu : cs[k]? = some u) : (w.setCell ⟨g, i, none⟩ x).cell? ⟨g, k, none⟩ = some u := by
  rw [World.cell?_setCell_other]
  · exact h.2.2 k u hu
  · intro e; simp only [Addr.mk.injEq] at e; omega
theorem BxAt.put {w : World} {g : Nat} {cs : List Value} (h : BxAt w g cs) (i : Nat) (x : Value) (hi : i < cs.length) : BxAt (w.setCell ⟨g, i, none⟩ x) g (cs.set i x) := by
  refine ⟨by simpa using h.1, fun k => by rw [World.frozen?_setCell]; exact h.2.1 k, fun k u hu => ?_⟩
  rw [List.getElem?_set] at hu
  by_cases e : i = k
  · subst e
    rw [if_pos rfl, if_pos hi] at hu
    rw [World.cell?_setCell_same _ _ _ (h.2.2 i cs[i] (List.getElem?_eq_getElem hi))]
    exact hu
  · rw [if_neg e] at hu
    exact h.other i k x u e hu
def RetPost (v : Value) (w : World) (e : Ending) (w' : World) : Prop := e = .returned v ∧ Below w.heap.size w w'
theorem uses_any (op : Int) (w : World) : Calls Try.prog 16 #[.int .i64 op] w fun e w' => e = .returned (.int .i64 (usesI op)) ∧ w = w' := by
  by_cases h4 : op = 4
  · subst h4
    go_enter Try.func16, Try.ntmps16
    go_wp2
    go_ret
    exact ⟨rfl, rfl⟩
  by_cases h3 : op = 3
  · subst h3
    go_enter Try.func16, Try.ntmps16
    go_wp2
    go_ret
    exact ⟨rfl, rfl⟩
  by_cases h2 : op = 2
  · subst h2
    go_enter Try.func16, Try.ntmps16
    go_wp2
    go_ret
    exact ⟨rfl, rfl⟩
  by_cases h1 : op = 1
  · subst h1
    go_enter Try.func16, Try.ntmps16
    go_wp2
    go_ret
    exact ⟨rfl, rfl⟩
  by_cases h5 : op = 5
  · subst h5
    go_enter Try.func16, Try.ntmps16
    go_wp2
    go_ret
    exact ⟨rfl, rfl⟩
  have e : usesI op = -1 := by unfold usesI; rw [if_neg h1, if_neg h2, if_neg h3, if_neg h4, if_neg h5]
  rw [e]
  clear e
  go_enter Try.func16, Try.ntmps16
  go_wp2
  go_ret
  exact ⟨rfl, rfl⟩
theorem usesI_le (op : Int) : -1 ≤ usesI op ∧ usesI op ≤ 3 := by
  unfold usesI
  repeat' split
  all_goals omega
end Go.Proofs.Ythglgempbdaikaa
