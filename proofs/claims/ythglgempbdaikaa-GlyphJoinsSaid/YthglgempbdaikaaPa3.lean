/- The tracer's memory; contracts of its add and finish. -/
import Derived.Test.YthglgempbdaikaaPa2
import Derived.Test.YthglgempbdaikaaCur0
import Derived.Deep.RegionLaw
import Derived.Deep.AppendLies
namespace Go.Proofs.Ythglgempbdaikaa
open Go.RowKit

def rowL (l : List Pt) : List Value := l.flatMap fun p => [.int .i64 p.1, .int .i64 p.2]
theorem rowL_snoc (l : List Pt) (x y : Int) : rowL l ++ [.int .i64 x, .int .i64 y] = rowL (l ++ [(x, y)]) := by simp [rowL]
theorem rowL_get (l : List Pt) (j : Nat) (h : j < l.length) : (rowL l)[j * 2]? = some (.int .i64 (l.getD j (0, 0)).1) ∧ (rowL l)[j * 2 + 1]? = some (.int .i64 (l.getD j (0, 0)).2) := by
  induction l generalizing j with
  | nil => simp at h
  | cons p l ih =>
    cases j with
    | zero => simp [rowL]
    | succ j =>
      have := ih j (by simpa using h)
      have e1 : (j + 1) * 2 = j * 2 + 1 + 1 := by omega
      have e2 : rowL (p :: l) = .int .i64 p.1 :: .int .i64 p.2 :: rowL l := by simp [rowL]
      rw [e1, e2]
      simpa using this
/-- a line's points, read: at least one, in a block from A on, below block B -/
def PLn (w : World) (A B : Nat) (v : Value) (l : List Pt) : Prop := ∃ g off cap, v = .slice (some ⟨g, off, none⟩) l.length cap ∧ A ≤ g ∧ g < B ∧ PtAt w g off l.length (fun k => (l.getD k (0, 0)).1) (fun k => (l.getD k (0, 0)).2)
theorem PLn.below {w w1 : World} {A B B1 : Nat} {v : Value} {l : List Pt} (h : PLn w A B v l) (hb : Below B w w1) (h1 : B ≤ B1) : PLn w1 A B1 v l := by
  obtain ⟨g, off, cap, hv, hA, hg, hp⟩ := h
  exact ⟨g, off, cap, hv, hA, by omega, fun j hj => ⟨(hb.cell (p := ⟨g, _, none⟩) hg).trans (hp j hj).1, (hb.cell (p := ⟨g, _, none⟩) hg).trans (hp j hj).2⟩⟩
theorem PLn.grown {w w1 : World} {A B : Nat} {v u : Value} {l : List Pt} (h : PLn w A B v l) (hg : w.grownBy w1 u.ownBlock) (hn : NoInt w u) : PLn w1 A B v l := by
  obtain ⟨g, off, cap, hv, hA, hlt, hp⟩ := h
  refine ⟨g, off, cap, hv, hA, hlt, fun j hj => ?_⟩
  have hne : some g ≠ u.ownBlock := fun e => hn g e.symm _ _ (hp j hj).1 _ _ rfl
  exact ⟨hg.cell (hp j hj).1 hne, hg.cell (hp j hj).2 hne⟩
/-- the lines that are done: a row of ours in a block without numbers, the points below block Bn -/
def DRow (w : World) (Bd Bn : Nat) (vd : Value) (L : List (List Pt × Bool)) : Prop := ∃ cs, w.ownsRow Bd 56 2 vd L.length cs ∧ NoInt w vd ∧ (∀ g, vd.ownBlock = some g → g < Bn) ∧
  ∀ j, j < L.length → ∃ p n c, cs[j * 2]? = some (.slice p n c) ∧ cs[j * 2 + 1]? = some (.bool (L.getD j ([], false)).2) ∧ PLn w Bd Bn (.slice p n c) (L.getD j ([], false)).1
theorem DRow.below {w w1 : World} {Bd Bn B1 : Nat} {vd : Value} {L : List (List Pt × Bool)} (h : DRow w Bd Bn vd L) (hb : Below Bn w w1) (h1 : Bn ≤ B1) : DRow w1 Bd B1 vd L := by
  obtain ⟨cs, ho, hn, hlt, hs⟩ := h
  refine ⟨cs, ?_, fun g hg j u hu => ?_, fun g hg => by have := hlt g hg; omega, fun j hj => ?_⟩
  · refine ⟨ho.1, ?_⟩
    rcases ho.2 with h | ⟨g, cap, cur, hv, hB, hh, r⟩
    · exact Or.inl h
    · exact Or.inr ⟨g, cap, cur, hv, hB, (hb.block g (hlt g (by rw [hv]; rfl))).trans hh, r⟩
  · rw [hb.cell (p := ⟨g, j, none⟩) (hlt g hg)] at hu
    exact hn g hg j u hu
  · obtain ⟨p, n, c, h1', h2', h3'⟩ := hs j hj
    exact ⟨p, n, c, h1', h2', h3'.below hb h1⟩
/-- the tracer in block T -/
def TrS (w : World) (T Bd Bn : Nat) (t : TS) : Prop := ∃ vd p n c, BxAt w T [vd, .slice p n c, .int .i64 t.pos.1, .int .i64 t.pos.2] ∧ (∃ p n c, vd = .slice p n c) ∧ T < Bd ∧ Bd ≤ Bn ∧ Bn ≤ w.heap.size ∧ w.ownsRow Bn 42 2 (.slice p n c) t.now.length (rowL t.now) ∧ DRow w Bd Bn vd t.done
/-- blocks that are neither the tracer's nor its rows' -/
def Fre (w : World) (T g : Nat) : Prop := g < w.heap.size ∧ g ≠ T ∧ (∀ v, w.cell? ⟨T, 0, none⟩ = some v → v.ownBlock ≠ some g) ∧ ∀ v, w.cell? ⟨T, 1, none⟩ = some v → v.ownBlock ≠ some g
/-- such blocks stay as they are -/
structure Frm (w w' : World) (T : Nat) : Prop where
  os : w'.os = w.os
  tape : w'.tape = w.tape
  output : w'.output = w.output
  size : w.heap.size ≤ w'.heap.size
  block : ∀ g, Fre w T g → w'.heap[g]? = w.heap[g]? ∧ Fre w' T g
theorem Frm.refl (w : World) (T : Nat) : Frm w w T := ⟨rfl, rfl, rfl, Nat.le_refl _, fun _ h => ⟨rfl, h⟩⟩
theorem Frm.trans {w w1 w2 : World} {T : Nat} (h : Frm w w1 T) (k : Frm w1 w2 T) : Frm w w2 T :=
  ⟨k.os.trans h.os, k.tape.trans h.tape, k.output.trans h.output, Nat.le_trans h.size k.size, fun g hg => ⟨(k.block g (h.block g hg).2).1.trans (h.block g hg).1, (k.block g (h.block g hg).2).2⟩⟩
theorem Frm.cell {w w' : World} {T g k : Nat} {u : Value} (h : Frm w w' T) (hg : Fre w T g) (hu : w.cell? ⟨g, k, none⟩ = some u) : w'.cell? ⟨g, k, none⟩ = some u := (World.cell?_of_block (h.block g hg).1).trans hu
/-- new blocks -/
theorem Frm.of_below {w w' : World} {T : Nat} (hT : T < w.heap.size) (hb : Below w.heap.size w w') : Frm w w' T :=
  ⟨hb.os, hb.tape, hb.output, hb.size, fun g hg => ⟨hb.block g hg.1, Nat.lt_of_lt_of_le hg.1 hb.size, hg.2.1, fun v hv => hg.2.2.1 v (by rw [hb.cell (p := ⟨T, 0, none⟩) hT] at hv; exact hv), fun v hv => hg.2.2.2 v (by rw [hb.cell (p := ⟨T, 1, none⟩) hT] at hv; exact hv)⟩⟩
/-- a store into the tracer: a row of another block only if it is a new one -/
theorem Frm.store {w : World} {T k : Nat} {u : Value} {w0 : World} {x : Value} (hc : w.cell? ⟨T, k, none⟩ = some x) (h0 : Frm w0 w T) (hu : ∀ z, u.ownBlock = some z → z < w0.heap.size → ¬ Fre w0 T z) : Frm w0 (w.setCell ⟨T, k, none⟩ u) T := by
  refine ⟨h0.os, h0.tape, h0.output, by simpa using h0.size, fun g hg => ?_⟩
  obtain ⟨hb, hf⟩ := h0.block g hg
  refine ⟨(Below.heap_setCell _ _ _ _ hf.2.1).trans hb, by simpa using hf.1, hf.2.1, fun v hv => ?_, fun v hv => ?_⟩
  · by_cases e : k = 0
    · subst e
      rw [World.cell?_setCell_same _ _ _ hc] at hv
      obtain rfl := Option.some.inj hv
      exact fun e2 => hu g e2 hg.1 hg
    · rw [World.cell?_setCell_other _ _ _ _ (by simp only [ne_eq, Addr.mk.injEq]; omega)] at hv
      exact hf.2.2.1 v hv
  · by_cases e : k = 1
    · subst e
      rw [World.cell?_setCell_same _ _ _ hc] at hv
      obtain rfl := Option.some.inj hv
      exact fun e2 => hu g e2 hg.1 hg
    · rw [World.cell?_setCell_other _ _ _ _ (by simp only [ne_eq, Addr.mk.injEq]; omega)] at hv
      exact hf.2.2.2 v hv
/-- an append to one of the tracer's rows -/
theorem Frm.grown {w w' : World} {T k : Nat} {v : Value} (hT : T < w.heap.size) (hv : w.cell? ⟨T, k, none⟩ = some v) (hk : k = 0 ∨ k = 1) (hne : v.ownBlock ≠ some T) (hg : w.grownBy w' v.ownBlock) : Frm w w' T := by
  have hbT : w'.heap[T]? = w.heap[T]? := hg.block T hT (fun e => hne e.symm)
  refine ⟨hg.os, hg.tape, hg.output, hg.size, fun g hf => ⟨hg.block g hf.1 (fun e => ?_), Nat.lt_of_lt_of_le hf.1 hg.size, hf.2.1, fun u hu => hf.2.2.1 u ?_, fun u hu => hf.2.2.2 u ?_⟩⟩
  · rcases hk with rfl | rfl
    · exact hf.2.2.1 v hv e.symm
    · exact hf.2.2.2 v hv e.symm
  · rw [World.cell?_of_block (w := w) (a := ⟨T, 0, none⟩) hbT] at hu; exact hu
  · rw [World.cell?_of_block (w := w) (a := ⟨T, 1, none⟩) hbT] at hu; exact hu
theorem Try.info56 : (Try.prog.info? 56).map (fun i => (i.zero, i.size, i.bytes)) = some (some (.agg #[.slice none 0 0, .bool false]), 2, 32) := by kernel_rfl
theorem Try.underlying22 : Try.prog.underlying 22 = some (.slice 56) := by kernel_rfl
end Go.Proofs.Ythglgempbdaikaa
