/- Entries in a block; the comparisons; exchange of parts. -/
import Derived.Test.YtkhdielfnphheaaSrt3
import Derived.Test.YtkhdielfnphheaaOld
import Derived.Test.YtkhdielfnphheaaChecked
import Derived.WalkKit
import Derived.WalkLawsBesides
import Derived.WalkSpells
import Derived.BigQuiet
import Derived.BigRegion
import Derived.Deep.QuietTactic
import Derived.Deep.RegionHeld3
import Derived.Deep.DeepCutAuto
import Derived.Lib.Hide
import Derived.Outline
namespace Go.Proofs.Ytkhdielfnphheaa
open Go.RowKit

/-- only block A changes, beside new blocks -/
structure FrmA (w w' : World) (A : Nat) : Prop where
  os : w'.os = w.os
  tape : w'.tape = w.tape
  output : w'.output = w.output
  size : w.heap.size ≤ w'.heap.size
  block : ∀ g, g < w.heap.size → g ≠ A → w'.heap[g]? = w.heap[g]?
theorem FrmA.refl (w : World) (A : Nat) : FrmA w w A := ⟨rfl, rfl, rfl, Nat.le_refl _, fun _ _ _ => rfl⟩
theorem FrmA.trans {w w1 w2 : World} {A : Nat} (h : FrmA w w1 A) (k : FrmA w1 w2 A) : FrmA w w2 A :=
  ⟨k.os.trans h.os, k.tape.trans h.tape, k.output.trans h.output, Nat.le_trans h.size k.size, fun g hg hne => (k.block g (Nat.lt_of_lt_of_le hg h.size) hne).trans (h.block g hg hne)⟩
theorem FrmA.of_below {w w' : World} {A : Nat} (hb : Below w.heap.size w w') : FrmA w w' A :=
  ⟨hb.os, hb.tape, hb.output, hb.size, fun g hg _ => hb.block g hg⟩
theorem FrmA.set {w0 w : World} {A k : Nat} {u : Value} (h : FrmA w0 w A) : FrmA w0 (w.setCell ⟨A, k, none⟩ u) A :=
  ⟨h.os, h.tape, h.output, by simpa using h.size, fun g hg hne => (Below.heap_setCell _ _ _ _ hne).trans (h.block g hg hne)⟩
theorem FrmA.drew {w0 w : World} {A : Nat} (h : FrmA w0 w A) : FrmA w0 w.drew A := ⟨h.os, h.tape, h.output, h.size, h.block⟩
/-- n entries from the start of block A on -/
def EntB (w : World) (A n : Nat) (E : Nat → Ent) : Prop := A < w.heap.size ∧ (∀ k, w.frozen? ⟨A, k, none⟩ = false) ∧ ∀ j, j < n → w.cell? ⟨A, j * 2, none⟩ = some (.int .i64 (E j).1) ∧ w.cell? ⟨A, j * 2 + 1, none⟩ = some (.int .i64 (E j).2)
theorem EntB.later {w w1 : World} {A n : Nat} {E : Nat → Ent} (h : EntB w A n E) (hb : Below w.heap.size w w1) : EntB w1 A n E :=
  ⟨Nat.lt_of_lt_of_le h.1 hb.size, fun k => frozen_later hb h.1 (h.2.1 k), fun j hj => ⟨cell_later hb (h.2.2 j hj).1, cell_later hb (h.2.2 j hj).2⟩⟩
theorem EntB.drew {w : World} {A n : Nat} {E : Nat → Ent} (h : EntB w A n E) : EntB w.drew A n E := h
theorem EntB.put {w : World} {A n i : Nat} {E : Nat → Ent} (h : EntB w A n E) (hi : i < n) (x y : Int) : EntB ((w.setCell ⟨A, i * 2, none⟩ (.int .i64 x)).setCell ⟨A, i * 2 + 1, none⟩ (.int .i64 y)) A n (fun k => if k = i then (x, y) else E k) := by
  refine ⟨by simpa using h.1, fun k => by rw [World.frozen?_setCell, World.frozen?_setCell]; exact h.2.1 k, fun j hj => ?_⟩
  have hc := h.2.2 i hi
  have hd := h.2.2 j hj
  have c1 : (w.setCell ⟨A, i * 2, none⟩ (.int .i64 x)).cell? ⟨A, i * 2 + 1, none⟩ = some (.int .i64 (E i).2) := by
    rw [World.cell?_setCell_other _ _ _ _ (by simp only [ne_eq, Addr.mk.injEq]; omega)]; exact hc.2
  by_cases e : j = i
  · subst e
    dsimp only
    rw [if_pos rfl]
    refine ⟨?_, World.cell?_setCell_same _ _ _ c1⟩
    rw [World.cell?_setCell_other _ _ _ _ (by simp only [ne_eq, Addr.mk.injEq]; omega)]
    exact World.cell?_setCell_same _ _ _ hc.1
  · dsimp only
    rw [if_neg e]
    constructor
    · rw [World.cell?_setCell_other _ _ _ _ (by simp only [ne_eq, Addr.mk.injEq]; omega), World.cell?_setCell_other _ _ _ _ (by simp only [ne_eq, Addr.mk.injEq]; omega)]
      exact hd.1
    · rw [World.cell?_setCell_other _ _ _ _ (by simp only [ne_eq, Addr.mk.injEq]; omega), World.cell?_setCell_other _ _ _ _ (by simp only [ne_eq, Addr.mk.injEq]; omega)]
      exact hd.2
theorem EntB.swap {w : World} {A n i j : Nat} {E : Nat → Ent} (h : EntB w A n E) (hi : i < n) (hj : j < n) : EntB ((((w.setCell ⟨A, i * 2, none⟩ (.int .i64 (E j).1)).setCell ⟨A, i * 2 + 1, none⟩ (.int .i64 (E j).2)).setCell ⟨A, j * 2, none⟩ (.int .i64 (E i).1)).setCell ⟨A, j * 2 + 1, none⟩ (.int .i64 (E i).2)) A n (swapF E i j) := by
  have h2 := (h.put hi (E j).1 (E j).2).put hj (E i).1 (E i).2
  have e : (fun k => if k = j then ((E i).1, (E i).2) else (fun k => if k = i then ((E j).1, (E j).2) else E k) k) = swapF E i j := by
    funext k
    unfold swapF
    by_cases h1 : k = i
    · subst h1
      by_cases h3 : k = j
      · subst h3; simp
      · rw [if_neg h3]; simp
    · rw [if_neg h1]
      dsimp only
      by_cases h3 : k = j
      · rw [if_pos h3, if_pos h3]
      · rw [if_neg h3, if_neg h3, if_neg h1]
  rw [e] at h2
  exact h2
theorem swap_sym (E : Nat → Ent) (i j : Nat) : swapF E i j = swapF E j i := by
  funext k
  unfold swapF
  by_cases h1 : k = i
  · by_cases h2 : k = j
    · rw [if_pos h1, if_pos h2, ← h1, ← h2]
    · rw [if_pos h1, if_neg h2, if_pos h1]
  · rw [if_neg h1]
    by_cases h2 : k = j
    · rw [if_pos h2, if_pos h2]
    · rw [if_neg h2, if_neg h2, if_neg h1]
/-- how two names compare -/
def cmpI (x y : Int) : Int := if x < y then -1 else if y < x then 1 else 0
set_option maxRecDepth 100000 in
theorem cmp_any (x a y b : Int) (w : World) : Calls Try.prog 52 #[.agg #[.int .i64 x, .int .i64 a], .agg #[.int .i64 y, .int .i64 b]] w (RetPost (.int .i64 (cmpI x y)) w) := by
  by_cases h1 : x < y
  · have e : cmpI x y = -1 := by unfold cmpI; rw [if_pos h1]
    rw [e]
    have d1 : decide (x < y) = true := decide_eq_true h1
    go_enter Try.func52, Try.ntmps52
    go_wp2_with fail
    go_ret
    exact ⟨rfl, bel2 _ _ _⟩
  · have d1 : decide (x < y) = false := decide_eq_false h1
    by_cases h2 : y < x
    · have e : cmpI x y = 1 := by unfold cmpI; rw [if_neg h1, if_pos h2]
      rw [e]
      have d2 : decide (y < x) = true := decide_eq_true h2
      go_enter Try.func52, Try.ntmps52
      go_wp2_with fail
      go_ret
      exact ⟨rfl, bel2 _ _ _⟩
    · have e : cmpI x y = 0 := by unfold cmpI; rw [if_neg h1, if_neg h2]
      rw [e]
      have d2 : decide (y < x) = false := decide_eq_false h2
      go_enter Try.func52, Try.ntmps52
      go_wp2_with fail
      go_ret
      exact ⟨rfl, bel2 _ _ _⟩
set_option maxRecDepth 100000 in
theorem eqn_any (x a y b : Int) (w : World) : Calls Try.prog 54 #[.agg #[.int .i64 x, .int .i64 a], .agg #[.int .i64 y, .int .i64 b]] w (RetPost (.bool (x == y)) w) := by
  go_enter Try.func54, Try.ntmps54
  go_wp2_with fail
  go_ret
  exact ⟨rfl, bel2 _ _ _⟩
end Go.Proofs.Ytkhdielfnphheaa
