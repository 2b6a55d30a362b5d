/- Contracts of SortStableFunc, and of both for no entries; facts on tables. -/
import Derived.Test.YtkhdielfnphheaaIx7
namespace Go.Proofs.Ytkhdielfnphheaa
open Go.RowKit

set_option maxRecDepth 100000 in
theorem sortsf_any (A N cap : Nat) (E : Nat → Ent) (w : World) (h : EntB w A N E) (hN : N ≤ 4000000000000) (u : Ups E N) :
    Calls Try.prog 51 #[.slice (some ⟨A, 0, none⟩) N cap, cmpV] w (SortPost A N 0 N E w) := by
  have S := Lib.hid (stable_any A N cap E w h hN u)
  clear h
  go_enter Try.func51, Try.ntmps51
  go_wp2_with fail
  refine S.out.mono ?_
  rintro e w2 ⟨rfl, h2⟩
  go_wp2_with fail
  exact bodyPost_end (results_none rfl _ _ _) rfl ⟨rfl, h2⟩
set_option maxRecDepth 100000 in
theorem ins_nil (w : World) : Calls Try.prog 73 #[.slice none 0 0, .int .i64 0, .int .i64 0, cmpV] w (RetPost (.tuple #[]) w) := by
  go_enter Try.func73, Try.ntmps73
  go_wp2_with fail
  go_loopw [8] (fun x wr => x = .int .i64 1 ∧ w = wr) (fun x _ => 0)
  case atStart => exact ⟨by go_num, rfl⟩
  case round =>
    obtain ⟨rfl, rfl⟩ := hrel
    go_wp2_with fail
    exact bodyPost_end (results_none rfl _ _ _) rfl ⟨rfl, Below.refl _ _⟩
set_option maxRecDepth 100000 in
theorem stable_nil (w : World) : Calls Try.prog 61 #[.slice none 0 0, .int .i64 0, cmpV] w (RetPost (.tuple #[]) w) := by
  have I := Lib.hid ins_nil
  go_enter Try.func61, Try.ntmps61
  go_wp2_with fail
  go_loopw [7, 8] (fun x y wr => x = .int .i64 0 ∧ y = .int .i64 20 ∧ w = wr) (fun x _ _ => 0)
  case atStart => exact ⟨rfl, rfl, rfl⟩
  case round =>
    obtain ⟨rfl, rfl, rfl⟩ := hrel
    go_wp2_with fail
    refine (I.out w).mono ?_
    rintro e w2 ⟨rfl, hb⟩
    go_wp2_with fail
    go_loopw [6] (fun x wr => x = .int .i64 20 ∧ Below w.heap.size w wr) (fun x _ => 0)
    case atStart => exact ⟨rfl, hb⟩
    case round =>
      obtain ⟨rfl, hb2⟩ := hrel
      go_wp2_with fail
      exact bodyPost_end (results_none rfl _ _ _) rfl ⟨rfl, hb2⟩
set_option maxRecDepth 100000 in
theorem sortsf_nil (w : World) : Calls Try.prog 51 #[.slice none 0 0, cmpV] w (RetPost (.tuple #[]) w) := by
  have S := Lib.hid (stable_nil w)
  go_enter Try.func51, Try.ntmps51
  go_wp2_with fail
  refine S.out.mono ?_
  rintro e w2 ⟨rfl, h2⟩
  go_wp2_with fail
  exact bodyPost_end (results_none rfl _ _ _) rfl ⟨rfl, h2⟩
set_option maxRecDepth 100000 in
theorem compact_nil (w : World) : Calls Try.prog 53 #[.slice none 0 0, eqnV] w (RetPost (.slice none 0 0) w) := by
  go_enter Try.func53, Try.ntmps53
  go_wp2_with fail
  go_ret
  exact ⟨rfl, Below.refl _ _⟩
/-- the entries of n names -/
def entsN (N : Nat → Int) : Nat → Ent := fun i => (N i, (i : Int))
theorem ents_ups (N : Nat → Int) (n : Nat) : Ups (entsN N) n := fun p q h1 h2 => by unfold entsN; simp only; omega
theorem tabs_of {N : Nat → Int} {n : Nat} {E : Nat → Ent} (h1 : Sorted E 0 n) (h2 : Same (entsN N) E 0 n) : TabS N n E := ⟨h1, fun e => (h2 e).symm⟩
/-- the cells of n entries -/
def rowE (N : Nat → Int) : Nat → List Value
  | 0 => []
  | k + 1 => rowE N k ++ [.int .i64 (N k), .int .i64 (k : Int)]
theorem rowE_len (N : Nat → Int) (n : Nat) : (rowE N n).length = n * 2 := by
  induction n with
  | zero => rfl
  | succ n ih => unfold rowE; rw [List.length_append, ih]; simp; omega
theorem rowE_get (N : Nat → Int) (n j : Nat) (hj : j < n) : (rowE N n)[j * 2]? = some (.int .i64 (N j)) ∧ (rowE N n)[j * 2 + 1]? = some (.int .i64 (j : Int)) := by
  induction n with
  | zero => omega
  | succ n ih =>
    have hl := rowE_len N n
    unfold rowE
    by_cases e : j = n
    · subst e
      rw [List.getElem?_append_right (by omega), List.getElem?_append_right (by omega), hl, show j * 2 - j * 2 = 0 by omega, show j * 2 + 1 - j * 2 = 1 by omega]
      exact ⟨rfl, rfl⟩
    · rw [List.getElem?_append_left (by omega), List.getElem?_append_left (by omega)]
      exact ih (by omega)
/-- a row of entries of ours, with entries in its block -/
theorem ents_own {w : World} {B n : Nat} {v : Value} {N : Nat → Int} (h : w.ownsRow B 117 2 v n (rowE N n)) (h0 : 0 < n) : ∃ A cap, v = .slice (some ⟨A, 0, none⟩) n cap ∧ B ≤ A ∧ n ≤ cap ∧ cap ≤ maxLen ∧ EntB w A n (entsN N) := by
  rcases h.2 with ⟨hv, h0'⟩ | ⟨g, cap, cur, hv, hg, hh, h3, h4, h5, htake⟩
  · omega
  · refine ⟨g, cap, hv, hg, h3, h4, (h.lt g (by rw [hv]; rfl)).2, fun k => ?_, fun j hj => ?_⟩
    · have : w.frozen? ⟨g, k, none⟩ = false := by
        simp [World.frozen?, hh]
      exact this
    · have hadd : ∀ i, (⟨g, 0, none⟩ : Addr).add i = ⟨g, 0 + i, none⟩ := by intro i; unfold Addr.add; split <;> simp_all
      obtain ⟨g1, g2⟩ := rowE_get N n j hj
      have hc := h.cells (g := g) (by rw [hv]; rfl) (j * 2) _ g1
      have hd := h.cells (g := g) (by rw [hv]; rfl) (j * 2 + 1) _ g2
      rw [hadd, Nat.zero_add] at hc hd
      exact ⟨hc, hd⟩
theorem FrmA.below {w w' : World} {A B : Nat} (h : FrmA w w' A) (hA : B ≤ A) (hB : B ≤ w.heap.size) : Below B w w' :=
  ⟨h.os, h.tape, h.output, h.size, fun g hg => h.block g (by omega) (by omega)⟩
theorem BxAt.frm {w w1 : World} {g A : Nat} {cs : List Value} (h : BxAt w g cs) (hf : FrmA w w1 A) (hne : g ≠ A) : BxAt w1 g cs := by
  have hb : w1.heap[g]? = w.heap[g]? := hf.block g h.1 hne
  exact ⟨Nat.lt_of_lt_of_le h.1 hf.size, fun k => (World.frozen?_of_block (w := w) (a := ⟨g, k, none⟩) hb).trans (h.2.1 k), fun k u hu => (World.cell?_of_block (w := w) (a := ⟨g, k, none⟩) hb).trans (h.2.2 k u hu)⟩
theorem EntB.far {w : World} {A n g i : Nat} {E : Nat → Ent} (h : EntB w A n E) (u : Value) (hne : g ≠ A) : EntB (w.setCell ⟨g, i, none⟩ u) A n E := by
  refine ⟨by simpa using h.1, fun k => by rw [World.frozen?_setCell]; exact h.2.1 k, fun j hj => ⟨?_, ?_⟩⟩
  · rw [World.cell?_setCell_other _ _ _ _ (by simp only [ne_eq, Addr.mk.injEq]; omega)]; exact (h.2.2 j hj).1
  · rw [World.cell?_setCell_other _ _ _ _ (by simp only [ne_eq, Addr.mk.injEq]; omega)]; exact (h.2.2 j hj).2
/-- a table of n names N in blocks from B on -/
def TabV (B : Nat) (w : World) (v : Value) (tw : Bool) (N : Nat → Int) (n : Nat) : Prop :=
  ∃ T, TabK N n T ∧ tw = decide (T.length < n) ∧ ∃ p cap, v = .slice p T.length cap ∧ (0 < T.length → ∃ A, p = some ⟨A, 0, none⟩ ∧ B ≤ A ∧ EntB w A T.length (fun j => T.getD j (0, 0)))
theorem TabV.later {B : Nat} {w w1 : World} {v : Value} {tw : Bool} {N : Nat → Int} {n : Nat} (h : TabV B w v tw N n) (hb : Below w.heap.size w w1) : TabV B w1 v tw N n := by
  obtain ⟨T, h1, h2, p, cap, h3, h4⟩ := h
  refine ⟨T, h1, h2, p, cap, h3, fun h0 => ?_⟩
  obtain ⟨A, a1, a2, a3⟩ := h4 h0
  exact ⟨A, a1, a2, a3.later hb⟩
theorem TabV.far {B : Nat} {w : World} {v : Value} {tw : Bool} {N : Nat → Int} {n g i : Nat} (h : TabV B w v tw N n) (u : Value) (hg : g < B) : TabV B (w.setCell ⟨g, i, none⟩ u) v tw N n := by
  obtain ⟨T, h1, h2, p, cap, h3, h4⟩ := h
  refine ⟨T, h1, h2, p, cap, h3, fun h0 => ?_⟩
  obtain ⟨A, a1, a2, a3⟩ := h4 h0
  exact ⟨A, a1, a2, a3.far u (by omega)⟩
theorem TabV.low {B B' : Nat} {w : World} {v : Value} {tw : Bool} {N : Nat → Int} {n : Nat} (h : TabV B w v tw N n) (hb : B' ≤ B) : TabV B' w v tw N n := by
  obtain ⟨T, h1, h2, p, cap, h3, h4⟩ := h
  refine ⟨T, h1, h2, p, cap, h3, fun h0 => ?_⟩
  obtain ⟨A, a1, a2, a3⟩ := h4 h0
  exact ⟨A, a1, Nat.le_trans hb a2, a3⟩
theorem tabk_nil (N : Nat → Int) : TabK N 0 [] := ⟨fun i j h1 h2 => by simp at h2, fun i hi => by simp at hi, fun x _ => rfl, Nat.le_refl 0, ⟨fun h => by simp at h, fun ⟨i, hi, _⟩ => by omega⟩⟩
theorem TabV.nil (B : Nat) (w : World) (N : Nat → Int) : TabV B w (.slice none 0 0) false N 0 := ⟨[], tabk_nil N, rfl, none, 0, rfl, fun h => by simp at h⟩
end Go.Proofs.Ytkhdielfnphheaa
