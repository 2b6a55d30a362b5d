/- Contracts of the reference's whole numbers: Make, Sign. -/
import Derived.Test.YtbmbibjidpgbnaaNum10
import Derived.Test.YtbmbibjidpgbnaaNum8
import Derived.Test.YtbmbibjidpgbnaaAff2
namespace Go.Proofs.Ytbmbibjidpgbnaa
open Go.RowKit

/-- a sign and a size: the number z -/
def Whp (w : World) (b : Bool) (s : Value) (z : Int) : Prop := b = decide (z < 0) ∧ Nt w s z.natAbs
theorem Whp.later {w w1 : World} {b : Bool} {s : Value} {z : Int} (h : Whp w b s z) (hb : Below w.heap.size w w1) : Whp w1 b s z := ⟨h.1, h.2.later hb⟩
def WhPost (z : Int) (w : World) (e : Ending) (w' : World) : Prop := (∃ b s, e = .returned (.agg #[.bool b, s]) ∧ Whp w' b s z) ∧ Below w.heap.size w w'
theorem Nt.len {w : World} {v : Value} {a : Nat} (h : Nt w v a) : ∃ p cap, v = .slice p (dg 4294967296 a).length cap := by
  obtain ⟨p, cap, rfl, _⟩ := h.1
  exact ⟨p, cap, rfl⟩
theorem Nt.form {w : World} {v : Value} {a : Nat} (h : Nt w v a) : ∃ p n cap, v = .slice p n cap := by
  obtain ⟨p, cap, rfl, _⟩ := h.1
  exact ⟨p, _, cap, rfl⟩
theorem Whp.form {w : World} {b : Bool} {v : Value} {z : Int} (h : Whp w b v z) : ∃ p n cap, v = .slice p n cap := h.2.form
def sgn (neg : Bool) (n : Nat) : Int := if neg then -(n : Int) else n
theorem sgn_abs (neg : Bool) (n : Nat) : (sgn neg n).natAbs = n := by cases neg <;> simp [sgn]
theorem sgn_neg (neg : Bool) (n : Nat) : decide (sgn neg n < 0) = (neg && decide (0 < n)) := by
  cases neg <;> simp [sgn] <;> omega
/-- a block of ours whose first cells are cs -/
def BxAt (w : World) (g : Nat) (cs : List Value) : Prop := g < w.heap.size ∧ (∀ k, w.frozen? ⟨g, k, none⟩ = false) ∧ ∀ k u, cs[k]? = some u → w.cell? ⟨g, k, none⟩ = some u
theorem BxAt.later {w w1 : World} {g : Nat} {cs : List Value} (h : BxAt w g cs) (hb : Below w.heap.size w w1) : BxAt w1 g cs :=
  ⟨Nat.lt_of_lt_of_le h.1 hb.size, fun k => frozen_later hb h.1 (h.2.1 k), fun k u hu => cell_later hb (h.2.2 k u hu)⟩
theorem BxAt.new (w : World) (cs : List Value) (t : TypeId) : BxAt (w.alloc (.cells cs.toArray t)) w.heap.size cs :=
  ⟨by simp, fun k => by simp [go_sem], fun k u hu => by rw [World.cell?_alloc_new]; simpa using hu⟩
theorem BxAt.drew {w : World} {g : Nat} {cs : List Value} (h : BxAt w g cs) : BxAt w.drew g cs := h
theorem below_alloc (w : World) (o : Obj) : Below w.heap.size w (w.alloc o) := (Below.refl _ _).alloc (Nat.le_refl _) _
theorem cell2_far {w : World} {a i g : Nat} {u x y : Value} (h : w.cell? ⟨a, i, none⟩ = some u) (hne : g ≠ a) : ((w.setCell ⟨g, 0, none⟩ x).setCell ⟨g, 1, none⟩ y).cell? ⟨a, i, none⟩ = some u := by
  rw [World.cell?_setCell_other, World.cell?_setCell_other]
  · exact h
  · intro e; simp only [Addr.mk.injEq] at e; omega
  · intro e; simp only [Addr.mk.injEq] at e; omega
theorem bel_drew {m : Nat} {W W1 : World} (h : Below m W.drew W1) : Below m W W1 := ⟨h.os, h.tape, h.output, h.size, h.block⟩
theorem bthen {w w1 w2 : World} (h : Below w.heap.size w w1) (k : Below w1.heap.size w1 w2) : Below w.heap.size w w2 := h.trans (k.mono h.size)
/-- a store into a cell that holds no number changes no number -/
theorem Rd.setCell {k : IntKind} {w : World} {v : Value} {l : List Nat} {a : Addr} {u : Value} (x : Value) (h : Rd k w v l) (hu : w.cell? a = some u) (hne : ∀ kk z, u ≠ .int kk z) : Rd k (w.setCell a x) v l := by
  obtain ⟨p, cap, hv, hl, hc⟩ := h
  refine ⟨p, cap, hv, hl, fun h0 => ?_⟩
  obtain ⟨g, off, hp, hcc⟩ := hc h0
  refine ⟨g, off, hp, fun j hj => ?_⟩
  have hj' := hcc j hj
  rw [World.cell?_setCell_other]
  · exact hj'
  · intro e
    rw [← e, hu] at hj'
    exact hne _ _ (Option.some.inj hj')
theorem Nt.setCell {w : World} {v : Value} {n : Nat} {a : Addr} {u : Value} (x : Value) (h : Nt w v n) (hu : w.cell? a = some u) (hne : ∀ kk z, u ≠ .int kk z) : Nt (w.setCell a x) v n := ⟨h.1.setCell x hu hne, h.2⟩
theorem BxAt.other {w : World} {g : Nat} {cs : List Value} (h : BxAt w g cs) (i k : Nat) (x u : Value) (hne : i ≠ k) (hu : cs[k]? = some u) : (w.setCell ⟨g, i, none⟩ x).cell? ⟨g, k, none⟩ = some u := by
  rw [World.cell?_setCell_other]
  · exact h.2.2 k u hu
  · intro e; simp only [Addr.mk.injEq] at e; omega
theorem Nt.store2 {w : World} {v : Value} {n g : Nat} {b0 : Bool} {p0 : Option Addr} {n0 c0 : Nat} (x y : Value) (h : Nt w v n) (X : BxAt w g [.bool b0, .slice p0 n0 c0]) : Nt ((w.setCell ⟨g, 0, none⟩ x).setCell ⟨g, 1, none⟩ y) v n :=
  (h.setCell _ (X.2.2 0 _ rfl) (by intro _ _ h; cases h)).setCell _ (X.other 0 1 _ _ (by omega) rfl) (by intro _ _ h; cases h)
theorem Whp.store2 {w : World} {b : Bool} {s : Value} {z : Int} {g : Nat} {b0 : Bool} {p0 : Option Addr} {n0 c0 : Nat} (x y : Value) (h : Whp w b s z) (X : BxAt w g [.bool b0, .slice p0 n0 c0]) : Whp ((w.setCell ⟨g, 0, none⟩ x).setCell ⟨g, 1, none⟩ y) b s z :=
  ⟨h.1, h.2.store2 x y X⟩
theorem below_store2 {B : Nat} {w0 w : World} {g : Nat} (h : Below B w0 w) (hg : B ≤ g) (x y : Value) : Below B w0 ((w.setCell ⟨g, 0, none⟩ x).setCell ⟨g, 1, none⟩ y) :=
  (h.setCell (p := ⟨g, 0, none⟩) hg _).setCell (p := ⟨g, 1, none⟩) hg _
theorem bx_a (w : World) (cs : List Value) (t : TypeId) (o : Obj) : BxAt ((w.alloc (.cells cs.toArray t)).alloc o) w.heap.size cs := (BxAt.new w cs t).later (below_alloc _ _)
theorem bx_b (w : World) (cs : List Value) (t : TypeId) (o : Obj) : BxAt ((w.alloc o).alloc (.cells cs.toArray t)) (w.heap.size + 1) cs := by
  have := BxAt.new (w.alloc o) cs t
  simpa using this
theorem bel2 (w : World) (o o2 : Obj) : Below w.heap.size w ((w.alloc o).alloc o2) := bthen (below_alloc w o) (below_alloc _ o2)
theorem bel3 (w : World) (o o2 o3 : Obj) : Below w.heap.size w (((w.alloc o).alloc o2).alloc o3) := bthen (bel2 w o o2) (below_alloc _ o3)
set_option maxRecDepth 100000 in
set_option maxHeartbeats 1600000 in
theorem Make_any (neg : Bool) (s : Value) (n : Nat) (w : World) (hn : Small n) (h : Nt w s n) :
    Calls Try.prog 91 #[.bool neg, s] w (WhPost (sgn neg n) w) := by
  have A := Lib.hid h
  have la := hn.dg32
  have HN := Lib.hid hn
  clear h hn
  go_enter Try.func91, Try.ntmps91
  go_wp2_with fail
  obtain ⟨w0, hw0⟩ : ∃ w0, w0 = w.alloc (.cells #[.bool false, .slice none 0 0] 104) := ⟨_, rfl⟩
  have X0 := Lib.hid (show BxAt w0 w.heap.size [.bool false, .slice none 0 0] by rw [hw0]; exact BxAt.new w _ _)
  have B0 : Hid (Below w.heap.size w w0) := Lib.hid (by rw [hw0]; exact below_alloc _ _)
  rw [← hw0]
  clear hw0
  have A := Lib.hid (A.out.later B0.out)
  refine (half_any _ n w0 (by omega) A.out).mono ?_
  rintro e w1 ⟨⟨v1, rfl, hd1⟩, hb1⟩
  have D1 := Lib.hid hd1
  have B1 := Lib.hid (bthen B0.out hb1)
  have X1 := Lib.hid (X0.out.later hb1)
  clear hd1 hb1 B0 X0
  go_wp2_with fail
  refine (words_any _ (dg 65536 n) w1 (dg_lt (by omega) _) (by have := HN.out.dg16; omega) D1.out.1 D1.out.2).mono ?_
  rintro e w2 ⟨⟨v2, rfl, hd2⟩, hb2⟩
  rw [val_dg (by omega)] at hd2
  have D2 := Lib.hid hd2
  have B2 := Lib.hid (bthen B1.out hb2)
  have X2 := Lib.hid (X1.out.later hb2)
  obtain ⟨p2, cp2, rfl⟩ := hd2.len
  clear hd2 hb2 B1 D1 X1
  have hl : Hid (decide (0 < (dg 4294967296 n).length) = decide (0 < n)) := Lib.hid (by
    have := dg_len_zero (B := 4294967296) (by omega) n
    apply decide_eq_decide.2
    omega)
  obtain ⟨m, hm⟩ : ∃ m, m = (dg 4294967296 n).length := ⟨_, rfl⟩
  rw [← hm] at hl D2 la ⊢
  clear hm
  have c0 := X2.out.2.2 0 _ rfl
  have c1 := X2.out.2.2 1 _ rfl
  have f0 := X2.out.2.1
  have z2 := X2.out.1
  cases neg
  · go_wp2_with fail
    refine bodyPost_ret (v := .agg #[.bool false, .slice p2 m cp2]) ?_ rfl ⟨⟨_, _, rfl, ?_, ?_⟩, ?_⟩
    · simp [results, Try.results91, go_sem, *]
    · rw [sgn_neg]; rfl
    · rw [sgn_abs]
      exact (D2.out.setCell _ c0 (by intro _ _ h; cases h)).setCell _ (X2.out.other 0 1 _ _ (by omega) rfl) (by intro _ _ h; cases h)
    · exact (B2.out.setCell (p := ⟨w.heap.size, 0, none⟩) (Nat.le_refl _) _).setCell (p := ⟨w.heap.size, 1, none⟩) (Nat.le_refl _) _
  · go_wp2_with fail
    refine bodyPost_ret (v := .agg #[.bool (decide (0 < m)), .slice p2 m cp2]) ?_ rfl ⟨⟨_, _, rfl, ?_, ?_⟩, ?_⟩
    · simp [results, Try.results91, go_sem, *]
    · rw [sgn_neg, hl.out]; rfl
    · rw [sgn_abs]
      exact (D2.out.setCell _ c0 (by intro _ _ h; cases h)).setCell _ (X2.out.other 0 1 _ _ (by omega) rfl) (by intro _ _ h; cases h)
    · exact (B2.out.setCell (p := ⟨w.heap.size, 0, none⟩) (Nat.le_refl _) _).setCell (p := ⟨w.heap.size, 1, none⟩) (Nat.le_refl _) _
end Go.Proofs.Ytbmbibjidpgbnaa
