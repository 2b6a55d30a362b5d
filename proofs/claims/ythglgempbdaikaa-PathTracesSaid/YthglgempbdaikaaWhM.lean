/- Contracts of the reference's whole numbers. -/
import Derived.Test.YthglgempbdaikaaPa1
import Derived.Test.YthglgempbdaikaaNum10
import Derived.Test.YthglgempbdaikaaNum8
import Derived.Test.YthglgempbdaikaaAff2
import Derived.Test.YthglgempbdaikaaNum7
import Derived.Deep.RegionHeld3
import Derived.Test.YthglgempbdaikaaNum6
import Derived.Test.YthglgempbdaikaaNum11
import Derived.Test.YthglgempbdaikaaNum17
import Derived.Test.YthglgempbdaikaaNum12
namespace Go.Proofs.Ythglgempbdaikaa
open Go.RowKit

/-- a sign and a size: the number z -/
def Whp (w : World) (b : Bool) (s : Value) (z : Int) : Prop := b = decide (z < 0) ∧ Nt w s z.natAbs
theorem Whp.later {w w1 : World} {b : Bool} {s : Value} {z : Int} (h : Whp w b s z) (hb : Below w.heap.size w w1) : Whp w1 b s z := ⟨h.1, h.2.later hb⟩
def WhPost (z : Int) (w : World) (e : Ending) (w' : World) : Prop := (∃ b s, e = .returned (.agg #[.bool b, s]) ∧ Whp w' b s z) ∧ Below w.heap.size w w'
theorem Nt.len {w : World} {v : Value} {a : Nat} (h : Nt w v a) : ∃ p cap, v = .slice p (dg 4294967296 a).length cap := by
  obtain ⟨p, cap, rfl, _⟩ := h.1
  exact ⟨p, cap, rfl⟩
theorem Nt.form {w : World} {v : Value} {a : Nat} (h : Nt w v a) : ∃ p n cap, v = .slice p n cap := by
  obtain ⟨p, cap, rfl, _⟩ := h.1
  exact ⟨p, _, cap, rfl⟩
theorem Whp.form {w : World} {b : Bool} {v : Value} {z : Int} (h : Whp w b v z) : ∃ p n cap, v = .slice p n cap := h.2.form
def sgn (neg : Bool) (n : Nat) : Int := if neg then -(n : Int) else n
theorem sgn_abs (neg : Bool) (n : Nat) : (sgn neg n).natAbs = n := by cases neg <;> simp [sgn]
theorem sgn_neg (neg : Bool) (n : Nat) : decide (sgn neg n < 0) = (neg && decide (0 < n)) := by
  cases neg <;> simp [sgn] <;> omega
theorem BxAt.drew {w : World} {g : Nat} {cs : List Value} (h : BxAt w g cs) : BxAt w.drew g cs := h
theorem cell2_far {w : World} {a i g : Nat} {u x y : Value} (h : w.cell? ⟨a, i, none⟩ = some u) (hne : g ≠ a) : ((w.setCell ⟨g, 0, none⟩ x).setCell ⟨g, 1, none⟩ y).cell? ⟨a, i, none⟩ = some u := by
  rw [World.cell?_setCell_other, World.cell?_setCell_other]
  · exact h
  · intro e; simp only [Addr.mk.injEq] at e; omega
  · intro e; simp only [Addr.mk.injEq] at e; omega
/-- a store into a cell that holds no number changes no number -/
theorem Rd.setCell {k : IntKind} {w : World} {v : Value} {l : List Nat} {a : Addr} {u : Value} (x : Value) (h : Rd k w v l) (hu : w.cell? a = some u) (hne : ∀ kk z, u ≠ .int kk z) : Rd k (w.setCell a x) v l := by
  obtain ⟨p, cap, hv, hl, hc⟩ := h
  refine ⟨p, cap, hv, hl, fun h0 => ?_⟩
  obtain ⟨g, off, hp, hcc⟩ := hc h0
  refine ⟨g, off, hp, fun j hj => ?_⟩
  have hj' := hcc j hj
  rw [World.cell?_setCell_other]
  · exact hj'
  · intro e
    rw [← e, hu] at hj'
    exact hne _ _ (Option.some.inj hj')
theorem Nt.setCell {w : World} {v : Value} {n : Nat} {a : Addr} {u : Value} (x : Value) (h : Nt w v n) (hu : w.cell? a = some u) (hne : ∀ kk z, u ≠ .int kk z) : Nt (w.setCell a x) v n := ⟨h.1.setCell x hu hne, h.2⟩
theorem Nt.store2 {w : World} {v : Value} {n g : Nat} {b0 : Bool} {p0 : Option Addr} {n0 c0 : Nat} (x y : Value) (h : Nt w v n) (X : BxAt w g [.bool b0, .slice p0 n0 c0]) : Nt ((w.setCell ⟨g, 0, none⟩ x).setCell ⟨g, 1, none⟩ y) v n :=
  (h.setCell _ (X.2.2 0 _ rfl) (by intro _ _ h; cases h)).setCell _ (X.other 0 1 _ _ (by omega) rfl) (by intro _ _ h; cases h)
theorem Whp.store2 {w : World} {b : Bool} {s : Value} {z : Int} {g : Nat} {b0 : Bool} {p0 : Option Addr} {n0 c0 : Nat} (x y : Value) (h : Whp w b s z) (X : BxAt w g [.bool b0, .slice p0 n0 c0]) : Whp ((w.setCell ⟨g, 0, none⟩ x).setCell ⟨g, 1, none⟩ y) b s z :=
  ⟨h.1, h.2.store2 x y X⟩
theorem below_store2 {B : Nat} {w0 w : World} {g : Nat} (h : Below B w0 w) (hg : B ≤ g) (x y : Value) : Below B w0 ((w.setCell ⟨g, 0, none⟩ x).setCell ⟨g, 1, none⟩ y) :=
  (h.setCell (p := ⟨g, 0, none⟩) hg _).setCell (p := ⟨g, 1, none⟩) hg _
theorem bx_a (w : World) (cs : List Value) (t : TypeId) (o : Obj) : BxAt ((w.alloc (.cells cs.toArray t)).alloc o) w.heap.size cs := (BxAt.new w cs t).later (below_alloc _ _)
theorem bx_b (w : World) (cs : List Value) (t : TypeId) (o : Obj) : BxAt ((w.alloc o).alloc (.cells cs.toArray t)) (w.heap.size + 1) cs := by
  have := BxAt.new (w.alloc o) cs t
  simpa using this
theorem bel3 (w : World) (o o2 o3 : Obj) : Below w.heap.size w (((w.alloc o).alloc o2).alloc o3) := bthen (bel2 w o o2) (below_alloc _ o3)
set_option maxRecDepth 100000 in
set_option maxHeartbeats 1600000 in
theorem Make_any (neg : Bool) (s : Value) (n : Nat) (w : World) (hn : Small n) (h : Nt w s n) :
    Calls Try.prog 75 #[.bool neg, s] w (WhPost (sgn neg n) w) := by
  have A := Lib.hid h
  have la := hn.dg32
  have HN := Lib.hid hn
  clear h hn
  go_enter Try.func75, Try.ntmps75
  go_wp2_with fail
  obtain ⟨w0, hw0⟩ : ∃ w0, w0 = w.alloc (.cells #[.bool false, .slice none 0 0] 103) := ⟨_, rfl⟩
  have X0 := Lib.hid (show BxAt w0 w.heap.size [.bool false, .slice none 0 0] by rw [hw0]; exact BxAt.new w _ _)
  have B0 : Hid (Below w.heap.size w w0) := Lib.hid (by rw [hw0]; exact below_alloc _ _)
  rw [← hw0]
  clear hw0
  have A := Lib.hid (A.out.later B0.out)
  refine (half_any _ n w0 (by omega) A.out).mono ?_
  rintro e w1 ⟨⟨v1, rfl, hd1⟩, hb1⟩
  have D1 := Lib.hid hd1
  have B1 := Lib.hid (bthen B0.out hb1)
  have X1 := Lib.hid (X0.out.later hb1)
  clear hd1 hb1 B0 X0
  go_wp2_with fail
  refine (words_any _ (dg 65536 n) w1 (dg_lt (by omega) _) (by have := HN.out.dg16; omega) D1.out.1 D1.out.2).mono ?_
  rintro e w2 ⟨⟨v2, rfl, hd2⟩, hb2⟩
  rw [val_dg (by omega)] at hd2
  have D2 := Lib.hid hd2
  have B2 := Lib.hid (bthen B1.out hb2)
  have X2 := Lib.hid (X1.out.later hb2)
  obtain ⟨p2, cp2, rfl⟩ := hd2.len
  clear hd2 hb2 B1 D1 X1
  have hl : Hid (decide (0 < (dg 4294967296 n).length) = decide (0 < n)) := Lib.hid (by
    have := dg_len_zero (B := 4294967296) (by omega) n
    apply decide_eq_decide.2
    omega)
  obtain ⟨m, hm⟩ : ∃ m, m = (dg 4294967296 n).length := ⟨_, rfl⟩
  rw [← hm] at hl D2 la ⊢
  clear hm
  have c0 := X2.out.2.2 0 _ rfl
  have c1 := X2.out.2.2 1 _ rfl
  have f0 := X2.out.2.1
  have z2 := X2.out.1
  cases neg
  · go_wp2_with fail
    refine bodyPost_ret (v := .agg #[.bool false, .slice p2 m cp2]) ?_ rfl ⟨⟨_, _, rfl, ?_, ?_⟩, ?_⟩
    · simp [results, Try.results75, go_sem, *]
    · rw [sgn_neg]; rfl
    · rw [sgn_abs]
      exact (D2.out.setCell _ c0 (by intro _ _ h; cases h)).setCell _ (X2.out.other 0 1 _ _ (by omega) rfl) (by intro _ _ h; cases h)
    · exact (B2.out.setCell (p := ⟨w.heap.size, 0, none⟩) (Nat.le_refl _) _).setCell (p := ⟨w.heap.size, 1, none⟩) (Nat.le_refl _) _
  · go_wp2_with fail
    refine bodyPost_ret (v := .agg #[.bool (decide (0 < m)), .slice p2 m cp2]) ?_ rfl ⟨⟨_, _, rfl, ?_, ?_⟩, ?_⟩
    · simp [results, Try.results75, go_sem, *]
    · rw [sgn_neg, hl.out]; rfl
    · rw [sgn_abs]
      exact (D2.out.setCell _ c0 (by intro _ _ h; cases h)).setCell _ (X2.out.other 0 1 _ _ (by omega) rfl) (by intro _ _ h; cases h)
    · exact (B2.out.setCell (p := ⟨w.heap.size, 0, none⟩) (Nat.le_refl _) _).setCell (p := ⟨w.heap.size, 1, none⟩) (Nat.le_refl _) _
end Go.Proofs.Ythglgempbdaikaa
namespace Go.Proofs.Ythglgempbdaikaa
open Go.RowKit

def SignPost (z : Int) (w : World) (e : Ending) (w' : World) : Prop := e = .returned (.int .i64 z.sign) ∧ Below w.heap.size w w'
set_option maxRecDepth 100000 in
set_option maxHeartbeats 1600000 in
theorem Sign_any (b : Bool) (s : Value) (z : Int) (w : World) (hn : Small z.natAbs) (h : Whp w b s z) : Calls Try.prog 73 #[.agg #[.bool b, s]] w (SignPost z w) := by
  obtain ⟨hb, h⟩ := h
  have A := Lib.hid h
  have HB := Lib.hid hb
  have HN := Lib.hid hn
  clear h hb hn
  go_enter Try.func73, Try.ntmps73
  obtain ⟨w0, hw0⟩ : ∃ w0, w0 = w.alloc (.cells #[.bool b, s] 103) := ⟨_, rfl⟩
  have X0 := Lib.hid (show BxAt w0 w.heap.size [.bool b, s] by rw [hw0]; exact BxAt.new w _ _)
  have B0 : Hid (Below w.heap.size w w0) := Lib.hid (by rw [hw0]; exact below_alloc _ _)
  have c0 := X0.out.2.2 0 _ rfl
  have c1 := X0.out.2.2 1 _ rfl
  have e0 : w.alloc (.cells #[.bool b, s] 103) = w0 := hw0.symm
  clear hw0
  go_wp2_with fail
  have A := Lib.hid (A.out.later B0.out)
  refine (Bits_any _ z.natAbs w0 HN.out A.out).mono ?_
  rintro e w1 ⟨r, rfl, hr, hb1⟩
  have c0 := cell_later hb1 c0
  have R := Lib.hid hr
  have B1 := Lib.hid (bthen B0.out hb1)
  clear hr hb1 e0 c1
  by_cases hr0 : r = 0
  · have hz : Hid (z.sign = 0) := Lib.hid (by have := R.out.1 hr0; rw [show z = 0 by omega]; rfl)
    subst hr0
    go_wp2_with fail
    go_ret
    exact ⟨by rw [hz.out]; rfl, B1.out⟩
  · have hr1 : (r == 0) = false := by simp; exact hr0
    have hz0 : Hid (z ≠ 0) := Lib.hid (fun e => hr0 (R.out.2 (by omega)))
    cases b
    · have hz : Hid (z.sign = 1) := Lib.hid (by
        have h1 := HB.out
        have h2 := hz0.out
        have h3 : ¬ z < 0 := of_decide_eq_false h1.symm
        exact Int.sign_eq_one_of_pos (by omega))
      go_wp2_with fail
      go_ret
      exact ⟨by rw [hz.out]; rfl, B1.out⟩
    · have hz : Hid (z.sign = -1) := Lib.hid (by
        have h1 := HB.out
        have h3 : z < 0 := of_decide_eq_true h1.symm
        exact Int.sign_eq_neg_one_of_neg h3)
      go_wp2_with fail
      go_ret
      exact ⟨by rw [hz.out]; rfl, B1.out⟩
theorem sgn_not {z : Int} {b : Bool} (h : b = decide (z < 0)) : sgn (!b) z.natAbs = -z := by
  subst h
  unfold sgn
  by_cases hz : z < 0
  · simp [hz]; omega
  · simp [hz]; omega
theorem sgn_self {z : Int} {b : Bool} (h : b = decide (z < 0)) : sgn b z.natAbs = z := by
  subst h
  unfold sgn
  by_cases hz : z < 0
  · simp [hz]; omega
  · simp [hz]; omega
set_option maxRecDepth 100000 in
set_option maxHeartbeats 1600000 in
theorem Neg_any (b : Bool) (s : Value) (z : Int) (w : World) (hn : Small z.natAbs) (h : Whp w b s z) : Calls Try.prog 96 #[.agg #[.bool b, s]] w (WhPost (-z) w) := by
  obtain ⟨hb, h⟩ := h
  have A := Lib.hid h
  have HB := Lib.hid hb
  have HN := Lib.hid hn
  clear h hb hn
  go_enter Try.func96, Try.ntmps96
  obtain ⟨w0, hw0⟩ : ∃ w0, w0 = (w.alloc (.cells #[.bool b, s] 103)).alloc (.cells #[.bool false, .slice none 0 0] 103) := ⟨_, rfl⟩
  have X0 := Lib.hid (show BxAt w0 w.heap.size [.bool b, s] by rw [hw0]; exact bx_a w _ _ _)
  have Y0 := Lib.hid (show BxAt w0 (w.heap.size + 1) [.bool false, .slice none 0 0] by rw [hw0]; exact bx_b w _ _ _)
  have B0 : Hid (Below w.heap.size w w0) := Lib.hid (by rw [hw0]; exact bel2 _ _ _)
  have c0 := X0.out.2.2 0 _ rfl
  have c1 := X0.out.2.2 1 _ rfl
  have e0 : (w.alloc (.cells #[.bool b, s] 103)).alloc (.cells #[.bool false, .slice none 0 0] 103) = w0 := hw0.symm
  clear hw0
  go_wp2_with fail
  have A := Lib.hid (A.out.later B0.out)
  refine (Make_any (!b) s z.natAbs w0 HN.out A.out).mono ?_
  rintro e w1 ⟨⟨b1, s1, rfl, hr⟩, hb1⟩
  rw [sgn_not HB.out] at hr
  obtain ⟨ps, ns, cs, rfl⟩ := hr.form
  have R := Lib.hid hr
  have Y1 := Lib.hid (Y0.out.later hb1)
  have B1 := Lib.hid (bthen B0.out hb1)
  clear hr hb1 e0 c0 c1
  have d0 := Y1.out.2.2 0 _ rfl
  have d1 := Y1.out.2.2 1 _ rfl
  have f0 := Y1.out.2.1
  have z1 := Y1.out.1
  go_wp2_with fail
  refine bodyPost_ret (v := .agg #[.bool b1, .slice ps ns cs]) ?_ rfl ⟨⟨b1, _, rfl, R.out.store2 _ _ Y1.out⟩, below_store2 B1.out (by omega) _ _⟩
  simp [results, Try.results96, go_sem, *]
end Go.Proofs.Ythglgempbdaikaa
namespace Go.Proofs.Ythglgempbdaikaa
open Go.RowKit

theorem sgn_add {x y : Int} {b c : Bool} (h : b = decide (x < 0)) (h2 : c = decide (y < 0)) (e : b = c) : sgn b (x.natAbs + y.natAbs) = x + y := by
  subst h
  have h3 := decide_eq_decide.1 (e.trans h2)
  unfold sgn
  by_cases hz : x < 0
  · simp [hz]; omega
  · simp [hz]; omega
theorem sgn_sub {x y : Int} {b c : Bool} (h : b = decide (x < 0)) (h2 : c = decide (y < 0)) (e : b ≠ c) (hle : y.natAbs ≤ x.natAbs) : sgn b (x.natAbs - y.natAbs) = x + y := by
  subst h
  have h3 : ¬ (x < 0 ↔ y < 0) := fun hh => e (by rw [h2]; exact decide_eq_decide.2 hh)
  unfold sgn
  by_cases hz : x < 0
  · simp [hz]; omega
  · simp [hz]; omega
set_option maxRecDepth 100000 in
set_option maxHeartbeats 3200000 in
theorem WAdd_any (b c : Bool) (s t : Value) (x y : Int) (w : World) (hx : Small x.natAbs) (hy : Small y.natAbs) (hxy : Small (x + y).natAbs) (h : Whp w b s x) (h2 : Whp w c t y) :
    Calls Try.prog 83 #[.agg #[.bool b, s], .agg #[.bool c, t]] w (WhPost (x + y) w) := by
  obtain ⟨hb, h⟩ := h
  obtain ⟨hc, h2⟩ := h2
  have SA := Lib.hid (fun e => sgn_add hb hc e)
  have SS := Lib.hid (fun e h => sgn_sub hb hc e h)
  have SS2 := Lib.hid (fun e h => sgn_sub hc hb e h)
  have A := Lib.hid h
  have C := Lib.hid h2
  have HX := Lib.hid hx
  have HY := Lib.hid hy
  have HXY := Lib.hid hxy
  clear h h2 hb hc hx hy hxy
  go_enter Try.func83, Try.ntmps83
  obtain ⟨w0, hw0⟩ : ∃ w0, w0 = ((w.alloc (.cells #[.bool b, s] 103)).alloc (.cells #[.bool c, t] 103)).alloc (.cells #[.bool false, .slice none 0 0] 103) := ⟨_, rfl⟩
  have X0 := Lib.hid (show BxAt w0 w.heap.size [.bool b, s] by rw [hw0]; exact (bx_a w _ _ _).later (below_alloc _ _))
  have Y0 := Lib.hid (show BxAt w0 (w.heap.size + 1) [.bool c, t] by rw [hw0]; exact (bx_b w _ _ _).later (below_alloc _ _))
  have Z0 := Lib.hid (show BxAt w0 (w.heap.size + 1 + 1) [.bool false, .slice none 0 0] by rw [hw0]; have := bx_b (w.alloc (.cells #[.bool b, s] 103)) [.bool false, .slice none 0 0] 103 (.cells #[.bool c, t] 103); simpa using this)
  have B0 : Hid (Below w.heap.size w w0) := Lib.hid (by rw [hw0]; exact bel3 _ _ _ _)
  have c0 := X0.out.2.2 0 _ rfl
  have c1 := X0.out.2.2 1 _ rfl
  have d0 := Y0.out.2.2 0 _ rfl
  have d1 := Y0.out.2.2 1 _ rfl
  have r0 := Z0.out.2.2 0 _ rfl
  have r1 := Z0.out.2.2 1 _ rfl
  have rf := Z0.out.2.1
  have e0 : ((w.alloc (.cells #[.bool b, s] 103)).alloc (.cells #[.bool c, t] 103)).alloc (.cells #[.bool false, .slice none 0 0] 103) = w0 := hw0.symm
  clear hw0
  have A := Lib.hid (A.out.later B0.out)
  have C := Lib.hid (C.out.later B0.out)
  by_cases hbc : b = c
  · have SAx := Lib.hid (SA.out hbc)
    clear SA SS SS2
    subst hbc
    have hs : Hid (Small (x.natAbs + y.natAbs)) := Lib.hid (by have h1 := HXY.out; rw [← SAx.out, sgn_abs] at h1; exact h1)
    go_wp2_with fail
    clear e0
    go_region_held3 (fun w' => w'.cell? ⟨w.heap.size, 0, none⟩ = some (.bool b) ∧ w'.cell? ⟨w.heap.size, 1, none⟩ = some s ∧ w'.cell? ⟨w.heap.size + 1, 1, none⟩ = some t) (first | exact ⟨c0, c1, d1⟩ | exact ⟨by assumption, by assumption, by assumption⟩ | exact ⟨cell2_far (by assumption) (by omega), cell2_far (by assumption) (by omega), cell2_far (by assumption) (by omega)⟩ | go_keep)
      (first
        | (go_at_call 77; refine (Add_any _ _ x.natAbs y.natAbs _ HX.out HY.out (by exact A.out) (by exact C.out)).mono ?_; rintro e w1 ⟨⟨v1, rfl, h1⟩, hb1⟩; have k1 : Below w0.heap.size w0 w1 := (by first | exact hb1 | exact bel_drew hb1); have s0 := cell_later k1 c0; have s1 := cell_later k1 c1; have s2 := cell_later k1 d1)
        | (go_at_call 75; refine (Make_any _ _ (x.natAbs + y.natAbs) _ hs.out (by assumption)).mono ?_; rintro e w2 ⟨⟨b2, s2', rfl, h2⟩, hb2⟩; obtain ⟨ps, ns, cs, rfl⟩ := h2.form; have t0 := cell_later hb2 s0; have t1 := cell_later hb2 s1; have t2 := cell_later hb2 s2; have Z2 := (Z0.out.later k1).later hb2; have q0 := Z2.2.2 0 _ rfl; have q1 := Z2.2.2 1 _ rfl; have qf := Z2.2.1))
    go_wp2_with fail
    have B2 := Lib.hid (bthen (bthen B0.out k1) hb2)
    rw [SAx.out] at h2
    refine bodyPost_ret (v := .agg #[.bool b2, .slice ps ns cs]) ?_ rfl ⟨⟨_, _, rfl, h2.store2 _ _ Z2⟩, below_store2 B2.out (by omega) _ _⟩
    clear c0 c1 d0 d1 r0 r1 rf s0 s1 s2 t0 t1 t2 k1 hb1 hb2
    simp [results, Try.results83, go_sem, q0, q1]
  · have hbc' : (b == c) = false := by simp [hbc]
    have HBC := Lib.hid hbc
    clear hbc
    go_wp2_with fail
    refine (Cmp_any _ _ x.natAbs y.natAbs w0 HX.out HY.out A.out C.out).mono ?_
    rintro e w1 ⟨rfl, hb1⟩
    have A := Lib.hid (A.out.later hb1)
    have C := Lib.hid (C.out.later hb1)
    have X1 := Lib.hid (X0.out.later hb1)
    have Y1 := Lib.hid (Y0.out.later hb1)
    have Z1 := Lib.hid (Z0.out.later hb1)
    have B1 := Lib.hid (bthen B0.out hb1)
    clear c0 c1 d0 d1 r0 r1 rf e0 hb1
    have c0 := X1.out.2.2 0 _ rfl
    have c1 := X1.out.2.2 1 _ rfl
    have d0 := Y1.out.2.2 0 _ rfl
    have d1 := Y1.out.2.2 1 _ rfl
    by_cases hle : y.natAbs ≤ x.natAbs
    · have hm0 : 0 ≤ cmpN x.natAbs y.natAbs := by unfold cmpN; split; omega; split <;> omega
      obtain ⟨m, hm⟩ : ∃ m, m = cmpN x.natAbs y.natAbs := ⟨_, rfl⟩
      rw [← hm] at hm0 ⊢
      have HL := Lib.hid hle
      clear hm hle
      go_wp2_with fail
      refine (Sub_any _ _ x.natAbs y.natAbs w1 HX.out HL.out A.out C.out).mono ?_
      rintro e w2 ⟨⟨v2, rfl, h2⟩, hb2⟩
      have D2 := Lib.hid h2
      have X2 := Lib.hid (X1.out.later hb2)
      have Z2 := Lib.hid (Z1.out.later hb2)
      have B2 := Lib.hid (bthen B1.out hb2)
      clear c0 c1 d0 d1 h2 hb2
      have c0 := X2.out.2.2 0 _ rfl
      go_wp2_with fail
      refine (Make_any b v2 (x.natAbs - y.natAbs) w2 (HX.out.le (Nat.sub_le _ _)) D2.out).mono ?_
      rintro e w3 ⟨⟨b3, s3, rfl, h3⟩, hb3⟩
      rw [SS.out HBC.out HL.out] at h3
      obtain ⟨ps, ns, cs, rfl⟩ := h3.form
      have R := Lib.hid h3
      have Z3 := Lib.hid (Z2.out.later hb3)
      have B3 := Lib.hid (bthen B2.out hb3)
      clear c0 h3 hb3
      have q0 := Z3.out.2.2 0 _ rfl
      have q1 := Z3.out.2.2 1 _ rfl
      have qf := Z3.out.2.1
      go_wp2_with fail
      refine bodyPost_ret (v := .agg #[.bool b3, .slice ps ns cs]) ?_ rfl ⟨⟨_, _, rfl, R.out.store2 _ _ Z3.out⟩, below_store2 B3.out (by omega) _ _⟩
      simp [results, Try.results83, go_sem, q0, q1]
    · have hm0 : cmpN x.natAbs y.natAbs < 0 := by rw [cmpN_lt (by omega)]; omega
      obtain ⟨m, hm⟩ : ∃ m, m = cmpN x.natAbs y.natAbs := ⟨_, rfl⟩
      rw [← hm] at hm0 ⊢
      have HL : Hid (x.natAbs ≤ y.natAbs) := Lib.hid (by omega)
      clear hm hle
      go_wp2_with fail
      refine (Sub_any _ _ y.natAbs x.natAbs w1 HY.out HL.out C.out A.out).mono ?_
      rintro e w2 ⟨⟨v2, rfl, h2⟩, hb2⟩
      have D2 := Lib.hid h2
      have Y2 := Lib.hid (Y1.out.later hb2)
      have Z2 := Lib.hid (Z1.out.later hb2)
      have B2 := Lib.hid (bthen B1.out hb2)
      clear c0 c1 d0 d1 h2 hb2
      have d0 := Y2.out.2.2 0 _ rfl
      go_wp2_with fail
      refine (Make_any c v2 (y.natAbs - x.natAbs) w2 (HY.out.le (Nat.sub_le _ _)) D2.out).mono ?_
      rintro e w3 ⟨⟨b3, s3, rfl, h3⟩, hb3⟩
      rw [SS2.out (fun e => HBC.out e.symm) HL.out, Int.add_comm y x] at h3
      obtain ⟨ps, ns, cs, rfl⟩ := h3.form
      have R := Lib.hid h3
      have Z3 := Lib.hid (Z2.out.later hb3)
      have B3 := Lib.hid (bthen B2.out hb3)
      clear d0 h3 hb3
      have q0 := Z3.out.2.2 0 _ rfl
      have q1 := Z3.out.2.2 1 _ rfl
      have qf := Z3.out.2.1
      go_wp2_with fail
      refine bodyPost_ret (v := .agg #[.bool b3, .slice ps ns cs]) ?_ rfl ⟨⟨_, _, rfl, R.out.store2 _ _ Z3.out⟩, below_store2 B3.out (by omega) _ _⟩
      simp [results, Try.results83, go_sem, q0, q1]
end Go.Proofs.Ythglgempbdaikaa
namespace Go.Proofs.Ythglgempbdaikaa
open Go.RowKit

def I63 : Int := 9223372036854775808
theorem nt_one (w : World) (v : Value) (g cap : Nat) (hv : v = .slice (some ⟨g, 0, none⟩) 1 cap) (hc : 1 ≤ cap) (h : w.cell? ⟨g, 0, none⟩ = some (.int .u32 1)) : Nt w v 1 := by
  subst hv
  have h0 : Rd .u32 w (.slice (some ⟨g, 0, none⟩) 1 cap) [1] := ⟨_, _, rfl, by simp, fun _ => ⟨_, _, rfl, fun j hj => by
    have : j = 0 := by simp at hj; omega
    subst this
    exact h⟩⟩
  exact ⟨by rw [show dg 4294967296 1 = [1] by decide]; exact h0, ⟨_, _, _, rfl, hc⟩⟩
theorem nt_new1 (w : World) : Nt (w.alloc (.cells #[.int .u32 1] 123)) (.slice (some ⟨w.heap.size, 0, none⟩) 1 1) 1 :=
  nt_one _ _ _ _ rfl (by omega) (by rw [World.cell?_alloc_new]; rfl)
set_option maxRecDepth 100000 in
set_option maxHeartbeats 1600000 in
theorem WOf_any (n : Int) (w : World) (h0 : -I63 ≤ n) (h1 : n < I63) : Calls Try.prog 64 #[.int .i64 n] w (WhPost n w) := by
  by_cases hn : n < 0
  · have r0 : 0 ≤ -1 - n := by omega
    have r1 : -1 - n ≤ U64 := by unfold I63 at h0; unfold U64; omega
    have t1 : IntKind.i64.wrap (-1 - n) = -1 - n := IntWalk.i64_in _ (by unfold I63 at h0; omega)
    have t2 : IntKind.u64.wrap (-1 - n) = -1 - n := IntWalk.u64_in _ (by unfold I63 at h0; omega)
    have hs : Hid (Small (-1 - n).toNat) := Lib.hid (by unfold Small M64; unfold I63 at h0; omega)
    have hs2 : Hid (Small ((-1 - n).toNat + 1)) := Lib.hid (by unfold Small M64; unfold I63 at h0; omega)
    have hv : Hid (sgn true ((-1 - n).toNat + 1) = n) := Lib.hid (by simp [sgn]; omega)
    clear h0 h1
    go_enter Try.func64, Try.ntmps64
    go_wp2_with fail
    obtain ⟨w0, hw0⟩ : ∃ w0, w0 = w.alloc (.cells #[.bool false, .slice none 0 0] 103) := ⟨_, rfl⟩
    have X0 := Lib.hid (show BxAt w0 w.heap.size [.bool false, .slice none 0 0] by rw [hw0]; exact BxAt.new w _ _)
    have B0 : Hid (Below w.heap.size w w0) := Lib.hid (by rw [hw0]; exact below_alloc _ _)
    rw [← hw0]
    clear hw0
    refine (Of_any (-1 - n) w0 r0 r1).mono ?_
    rintro e w1 ⟨⟨v1, rfl, hd1⟩, hb1⟩
    have D1 := Lib.hid hd1
    have B1 := Lib.hid (bthen B0.out hb1)
    have X1 := Lib.hid (X0.out.later hb1)
    clear hd1 hb1 X0 B0 t1 t2
    go_wp2_with fail
    refine (Add_any _ _ (-1 - n).toNat 1 _ hs.out (Small.of (by omega)) (D1.out.later (below_alloc _ _)) (nt_new1 w1)).mono ?_
    rintro e w2 ⟨⟨v2, rfl, hd2⟩, hb2⟩
    have D2 := Lib.hid hd2
    have B2 := Lib.hid (bthen (bthen B1.out (below_alloc _ _)) hb2)
    have X2 := Lib.hid ((X1.out.later (below_alloc _ _)).later hb2)
    clear hd2 hb2 X1 B1
    go_wp2_with fail
    refine (Make_any true v2 _ w2 hs2.out D2.out).mono ?_
    rintro e w3 ⟨⟨b3, s3, rfl, h3⟩, hb3⟩
    rw [hv.out] at h3
    obtain ⟨ps, ns, cs, rfl⟩ := h3.form
    have R := Lib.hid h3
    have Z3 := Lib.hid (X2.out.later hb3)
    have B3 := Lib.hid (bthen B2.out hb3)
    clear h3 hb3
    have q0 := Z3.out.2.2 0 _ rfl
    have q1 := Z3.out.2.2 1 _ rfl
    have qf := Z3.out.2.1
    go_wp2_with fail
    refine bodyPost_ret (v := .agg #[.bool b3, .slice ps ns cs]) ?_ rfl ⟨⟨_, _, rfl, R.out.store2 _ _ Z3.out⟩, below_store2 B3.out (by omega) _ _⟩
    simp [results, Try.results64, go_sem, q0, q1]
  · have r0 : 0 ≤ n := by omega
    have r1 : n ≤ U64 := by unfold I63 at h1; unfold U64; omega
    have t2 : IntKind.u64.wrap n = n := IntWalk.u64_in _ (by unfold I63 at h1; omega)
    have hs : Hid (Small n.toNat) := Lib.hid (by unfold Small M64; unfold I63 at h1; omega)
    have hv : Hid (sgn false n.toNat = n) := Lib.hid (by simp [sgn]; omega)
    clear h0 h1
    go_enter Try.func64, Try.ntmps64
    go_wp2_with fail
    obtain ⟨w0, hw0⟩ : ∃ w0, w0 = w.alloc (.cells #[.bool false, .slice none 0 0] 103) := ⟨_, rfl⟩
    have X0 := Lib.hid (show BxAt w0 w.heap.size [.bool false, .slice none 0 0] by rw [hw0]; exact BxAt.new w _ _)
    have B0 : Hid (Below w.heap.size w w0) := Lib.hid (by rw [hw0]; exact below_alloc _ _)
    rw [← hw0]
    clear hw0
    refine (Of_any n w0 r0 r1).mono ?_
    rintro e w1 ⟨⟨v1, rfl, hd1⟩, hb1⟩
    have D2 := Lib.hid hd1
    have B2 := Lib.hid (bthen B0.out hb1)
    have X2 := Lib.hid (X0.out.later hb1)
    clear hd1 hb1 X0 B0 t2
    go_wp2_with fail
    refine (Make_any false v1 _ w1 hs.out D2.out).mono ?_
    rintro e w3 ⟨⟨b3, s3, rfl, h3⟩, hb3⟩
    rw [hv.out] at h3
    obtain ⟨ps, ns, cs, rfl⟩ := h3.form
    have R := Lib.hid h3
    have Z3 := Lib.hid (X2.out.later hb3)
    have B3 := Lib.hid (bthen B2.out hb3)
    clear h3 hb3
    have q0 := Z3.out.2.2 0 _ rfl
    have q1 := Z3.out.2.2 1 _ rfl
    have qf := Z3.out.2.1
    go_wp2_with fail
    refine bodyPost_ret (v := .agg #[.bool b3, .slice ps ns cs]) ?_ rfl ⟨⟨_, _, rfl, R.out.store2 _ _ Z3.out⟩, below_store2 B3.out (by omega) _ _⟩
    simp [results, Try.results64, go_sem, q0, q1]
end Go.Proofs.Ythglgempbdaikaa
namespace Go.Proofs.Ythglgempbdaikaa
open Go.RowKit

theorem sgn_mul {x y : Int} {b c : Bool} (h : b = decide (x < 0)) (h2 : c = decide (y < 0)) : sgn (b != c) (x.natAbs * y.natAbs) = x * y := by
  subst h
  subst h2
  rw [← Int.natAbs_mul]
  unfold sgn
  by_cases hx : x < 0 <;> by_cases hy : y < 0
  · have := Int.mul_pos_of_neg_of_neg hx hy
    simp [hx, hy]; omega
  · have : x * y ≤ 0 := Int.mul_nonpos_of_nonpos_of_nonneg (by omega) (by omega)
    simp [hx, hy]; omega
  · have : x * y ≤ 0 := Int.mul_nonpos_of_nonneg_of_nonpos (by omega) (by omega)
    simp [hx, hy]; omega
  · have : 0 ≤ x * y := Int.mul_nonneg (by omega) (by omega)
    simp [hx, hy]; omega
theorem bx3_a (w : World) (cs : List Value) (t : TypeId) (o o2 : Obj) : BxAt (((w.alloc (.cells cs.toArray t)).alloc o).alloc o2) w.heap.size cs := (bx_a w cs t o).later (below_alloc _ _)
theorem bx3_b (w : World) (cs : List Value) (t : TypeId) (o o2 : Obj) : BxAt (((w.alloc o).alloc (.cells cs.toArray t)).alloc o2) (w.heap.size + 1) cs := (bx_b w cs t o).later (below_alloc _ _)
theorem bx3_c (w : World) (cs : List Value) (t : TypeId) (o o2 : Obj) : BxAt (((w.alloc o).alloc o2).alloc (.cells cs.toArray t)) (w.heap.size + 1 + 1) cs := by
  have := bx_b (w.alloc o) cs t o2
  simpa using this
set_option maxRecDepth 100000 in
set_option maxHeartbeats 3200000 in
theorem WMul_any (b c : Bool) (s t : Value) (x y : Int) (w : World) (hx : Small x.natAbs) (hy : Small y.natAbs) (hxy : Small (x * y).natAbs) (h : Whp w b s x) (h2 : Whp w c t y) :
    Calls Try.prog 62 #[.agg #[.bool b, s], .agg #[.bool c, t]] w (WhPost (x * y) w) := by
  obtain ⟨hb, h⟩ := h
  obtain ⟨hc, h2⟩ := h2
  have SM : Hid (sgn (!(b == c)) (x.natAbs * y.natAbs) = x * y) := Lib.hid (sgn_mul hb hc)
  have A := Lib.hid h
  have C := Lib.hid h2
  have HX := Lib.hid hx
  have HY := Lib.hid hy
  have HXY : Hid (Small (x.natAbs * y.natAbs)) := Lib.hid (by rw [← Int.natAbs_mul]; exact hxy)
  clear h h2 hb hc hx hy hxy
  go_enter Try.func62, Try.ntmps62
  obtain ⟨w0, hw0⟩ : ∃ w0, w0 = ((w.alloc (.cells #[.bool b, s] 103)).alloc (.cells #[.bool c, t] 103)).alloc (.cells #[.bool false, .slice none 0 0] 103) := ⟨_, rfl⟩
  have X0 := Lib.hid (show BxAt w0 w.heap.size [.bool b, s] by rw [hw0]; exact bx3_a w _ _ _ _)
  have Y0 := Lib.hid (show BxAt w0 (w.heap.size + 1) [.bool c, t] by rw [hw0]; exact bx3_b w _ _ _ _)
  have Z0 := Lib.hid (show BxAt w0 (w.heap.size + 1 + 1) [.bool false, .slice none 0 0] by rw [hw0]; exact bx3_c w _ _ _ _)
  have B0 : Hid (Below w.heap.size w w0) := Lib.hid (by rw [hw0]; exact bel3 _ _ _ _)
  have e0 : ((w.alloc (.cells #[.bool b, s] 103)).alloc (.cells #[.bool c, t] 103)).alloc (.cells #[.bool false, .slice none 0 0] 103) = w0 := hw0.symm
  clear hw0
  have A := Lib.hid (A.out.later B0.out)
  have C := Lib.hid (C.out.later B0.out)
  go_wp2_with fail
  clear e0
  have c0 := X0.out.2.2 0 _ rfl
  have c1 := X0.out.2.2 1 _ rfl
  have d0 := Y0.out.2.2 0 _ rfl
  have d1 := Y0.out.2.2 1 _ rfl
  go_region_held3 (fun w' => w'.cell? ⟨w.heap.size, 0, none⟩ = some (.bool b) ∧ w'.cell? ⟨w.heap.size, 1, none⟩ = some s ∧ w'.cell? ⟨w.heap.size + 1, 0, none⟩ = some (.bool c) ∧ w'.cell? ⟨w.heap.size + 1, 1, none⟩ = some t) (first | exact ⟨c0, c1, d0, d1⟩ | exact ⟨by assumption, by assumption, by assumption, by assumption⟩ | exact ⟨cell2_far (by assumption) (by omega), cell2_far (by assumption) (by omega), cell2_far (by assumption) (by omega), cell2_far (by assumption) (by omega)⟩ | go_keep)
    (first
      | (go_at_call 76; refine (Mul_any _ _ x.natAbs y.natAbs _ HX.out HY.out (by exact A.out) (by exact C.out)).mono ?_; rintro e w1 ⟨⟨v1, rfl, h1⟩, hb1⟩; have k1 : Below w0.heap.size w0 w1 := (by first | exact hb1 | exact bel_drew hb1); have s0 := cell_later k1 c0; have s1 := cell_later k1 c1; have s2 := cell_later k1 d0; have s3 := cell_later k1 d1)
      | (go_at_call 75; refine (Make_any _ _ (x.natAbs * y.natAbs) _ HXY.out (by assumption)).mono ?_; rintro e w2 ⟨⟨b2, s2', rfl, h2⟩, hb2⟩; obtain ⟨ps, ns, cs, rfl⟩ := h2.form; have t0 := cell_later hb2 s0; have t1 := cell_later hb2 s1; have t2 := cell_later hb2 s2; have t3 := cell_later hb2 s3; have Z2 := (Z0.out.later k1).later hb2; have q0 := Z2.2.2 0 _ rfl; have q1 := Z2.2.2 1 _ rfl; have qf := Z2.2.1))
  go_wp2_with fail
  have B2 := Lib.hid (bthen (bthen B0.out k1) hb2)
  rw [SM.out] at h2
  refine bodyPost_ret (v := .agg #[.bool b2, .slice ps ns cs]) ?_ rfl ⟨⟨_, _, rfl, h2.store2 _ _ Z2⟩, below_store2 B2.out (by omega) _ _⟩
  clear c0 c1 d0 d1 s0 s1 s2 s3 t0 t1 t2 t3 k1 hb1 hb2
  simp [results, Try.results62, go_sem, q0, q1]
set_option maxRecDepth 100000 in
set_option maxHeartbeats 3200000 in
theorem WSub_any (b c : Bool) (s t : Value) (x y : Int) (w : World) (hx : Small x.natAbs) (hy : Small y.natAbs) (hxy : Small (x - y).natAbs) (h : Whp w b s x) (h2 : Whp w c t y) :
    Calls Try.prog 90 #[.agg #[.bool b, s], .agg #[.bool c, t]] w (WhPost (x - y) w) := by
  have A := Lib.hid h
  have C := Lib.hid h2
  have HX := Lib.hid hx
  have HY := Lib.hid hy
  have HNY : Hid (Small (-y).natAbs) := Lib.hid (by rw [Int.natAbs_neg]; exact hy)
  have HXY : Hid (Small (x + -y).natAbs) := Lib.hid hxy
  clear h h2 hx hy hxy
  go_enter Try.func90, Try.ntmps90
  obtain ⟨w0, hw0⟩ : ∃ w0, w0 = ((w.alloc (.cells #[.bool b, s] 103)).alloc (.cells #[.bool c, t] 103)).alloc (.cells #[.bool false, .slice none 0 0] 103) := ⟨_, rfl⟩
  have X0 := Lib.hid (show BxAt w0 w.heap.size [.bool b, s] by rw [hw0]; exact bx3_a w _ _ _ _)
  have Y0 := Lib.hid (show BxAt w0 (w.heap.size + 1) [.bool c, t] by rw [hw0]; exact bx3_b w _ _ _ _)
  have Z0 := Lib.hid (show BxAt w0 (w.heap.size + 1 + 1) [.bool false, .slice none 0 0] by rw [hw0]; exact bx3_c w _ _ _ _)
  have B0 : Hid (Below w.heap.size w w0) := Lib.hid (by rw [hw0]; exact bel3 _ _ _ _)
  have e0 : ((w.alloc (.cells #[.bool b, s] 103)).alloc (.cells #[.bool c, t] 103)).alloc (.cells #[.bool false, .slice none 0 0] 103) = w0 := hw0.symm
  clear hw0
  have A := Lib.hid (A.out.later B0.out)
  have C := Lib.hid (C.out.later B0.out)
  go_wp2_with fail
  clear e0
  have c0 := X0.out.2.2 0 _ rfl
  have c1 := X0.out.2.2 1 _ rfl
  have d0 := Y0.out.2.2 0 _ rfl
  have d1 := Y0.out.2.2 1 _ rfl
  go_region_held3 (fun w' => w'.cell? ⟨w.heap.size, 0, none⟩ = some (.bool b) ∧ w'.cell? ⟨w.heap.size, 1, none⟩ = some s ∧ w'.cell? ⟨w.heap.size + 1, 0, none⟩ = some (.bool c) ∧ w'.cell? ⟨w.heap.size + 1, 1, none⟩ = some t) (first | exact ⟨c0, c1, d0, d1⟩ | exact ⟨by assumption, by assumption, by assumption, by assumption⟩ | exact ⟨cell2_far (by assumption) (by omega), cell2_far (by assumption) (by omega), cell2_far (by assumption) (by omega), cell2_far (by assumption) (by omega)⟩ | go_keep)
    (first
      | (go_at_call 96; refine (Neg_any _ _ y _ HY.out (by exact C.out)).mono ?_; rintro e w1 ⟨⟨b1, s1', rfl, h1⟩, hb1⟩; have k1 : Below w0.heap.size w0 w1 := (by first | exact hb1 | exact bel_drew hb1); have s0 := cell_later k1 c0; have s1 := cell_later k1 c1; have s2 := cell_later k1 d0; have s3 := cell_later k1 d1)
      | (go_at_call 83; refine (WAdd_any _ _ _ _ x (-y) _ HX.out HNY.out HXY.out (A.out.later k1) (by assumption)).mono ?_; rintro e w2 ⟨⟨b2, s2', rfl, h2⟩, hb2⟩; obtain ⟨ps, ns, cs, rfl⟩ := h2.form; have t0 := cell_later hb2 s0; have t1 := cell_later hb2 s1; have t2 := cell_later hb2 s2; have t3 := cell_later hb2 s3; have Z2 := (Z0.out.later k1).later hb2; have q0 := Z2.2.2 0 _ rfl; have q1 := Z2.2.2 1 _ rfl; have qf := Z2.2.1))
  go_wp2_with fail
  have B2 := Lib.hid (bthen (bthen B0.out k1) hb2)
  refine bodyPost_ret (v := .agg #[.bool b2, .slice ps ns cs]) ?_ rfl ⟨⟨_, _, rfl, h2.store2 _ _ Z2⟩, below_store2 B2.out (by omega) _ _⟩
  clear c0 c1 d0 d1 s0 s1 s2 s3 t0 t1 t2 t3 k1 hb1 hb2
  simp [results, Try.results90, go_sem, q0, q1]
set_option maxRecDepth 100000 in
set_option maxHeartbeats 3200000 in
theorem WCmp_any (b c : Bool) (s t : Value) (x y : Int) (w : World) (hx : Small x.natAbs) (hy : Small y.natAbs) (hxy : Small (x - y).natAbs) (h : Whp w b s x) (h2 : Whp w c t y) :
    Calls Try.prog 81 #[.agg #[.bool b, s], .agg #[.bool c, t]] w (SignPost (x - y) w) := by
  have A := Lib.hid h
  have C := Lib.hid h2
  have HX := Lib.hid hx
  have HY := Lib.hid hy
  have HXY := Lib.hid hxy
  clear h h2 hx hy hxy
  go_enter Try.func81, Try.ntmps81
  obtain ⟨w0, hw0⟩ : ∃ w0, w0 = (w.alloc (.cells #[.bool b, s] 103)).alloc (.cells #[.bool c, t] 103) := ⟨_, rfl⟩
  have X0 := Lib.hid (show BxAt w0 w.heap.size [.bool b, s] by rw [hw0]; exact bx_a w _ _ _)
  have Y0 := Lib.hid (show BxAt w0 (w.heap.size + 1) [.bool c, t] by rw [hw0]; exact bx_b w _ _ _)
  have B0 : Hid (Below w.heap.size w w0) := Lib.hid (by rw [hw0]; exact bel2 _ _ _)
  have e0 : (w.alloc (.cells #[.bool b, s] 103)).alloc (.cells #[.bool c, t] 103) = w0 := hw0.symm
  clear hw0
  have A := Lib.hid (A.out.later B0.out)
  have C := Lib.hid (C.out.later B0.out)
  have c0 := X0.out.2.2 0 _ rfl
  have c1 := X0.out.2.2 1 _ rfl
  have d0 := Y0.out.2.2 0 _ rfl
  have d1 := Y0.out.2.2 1 _ rfl
  go_wp2_with fail
  refine (WSub_any b c s t x y w0 HX.out HY.out HXY.out A.out C.out).mono ?_
  rintro e w1 ⟨⟨b1, s1, rfl, h1⟩, hb1⟩
  have R := Lib.hid h1
  have B1 := Lib.hid (bthen B0.out hb1)
  clear h1 hb1 c0 c1 d0 d1 e0
  go_wp2_with fail
  refine (Sign_any b1 s1 (x - y) w1 HXY.out R.out).mono ?_
  rintro e w2 ⟨rfl, hb2⟩
  have B2 := Lib.hid (bthen B1.out hb2)
  clear hb2
  go_wp2_with fail
  go_ret
  exact ⟨rfl, B2.out⟩
end Go.Proofs.Ythglgempbdaikaa
namespace Go.Proofs.Ythglgempbdaikaa
open Go.RowKit

theorem bx4 (w : World) (b : Bool) (s : Value) (c : Bool) (t : Value) : ∃ w0, ((((w.alloc (.cells #[.bool b, s] 103)).alloc (.cells #[.bool c, t] 103)).alloc (.cells #[.bool false, .slice none 0 0] 103)).alloc (.cells #[.bool false, .slice none 0 0] 103)) = w0 ∧
    BxAt w0 w.heap.size [.bool b, s] ∧ BxAt w0 (w.heap.size + 1) [.bool c, t] ∧ BxAt w0 (w.heap.size + 1 + 1) [.bool false, .slice none 0 0] ∧ BxAt w0 (w.heap.size + 1 + 1 + 1) [.bool false, .slice none 0 0] ∧ Below w.heap.size w w0 := by
  refine ⟨_, rfl, (bx3_a w _ _ _ _).later (below_alloc _ _), (bx3_b w _ _ _ _).later (below_alloc _ _), (bx3_c w _ _ _ _).later (below_alloc _ _), ?_, bthen (bel3 w _ _ _) (below_alloc _ _)⟩
  have := bx3_c (w.alloc (.cells #[.bool b, s] 103)) [.bool false, .slice none 0 0] 103 (.cells #[.bool c, t] 103) (.cells #[.bool false, .slice none 0 0] 103)
  simpa using this
def WDivPost (x y : Int) (w : World) (e : Ending) (w' : World) : Prop :=
  (∃ b s c p n m, e = .returned (.tuple #[.agg #[.bool b, s], .agg #[.bool c, .slice p n m], .bool true]) ∧ Whp w' b s (x / y)) ∧ Below w.heap.size w w'
/-- the floor out of the quotient of the sizes -/
theorem div_up {x y : Int} {b : Bool} (hb : b = decide (x < 0)) (hy : 0 < y) : (x - sgn b (x.natAbs / y.natAbs) * y < 0 → sgn b (x.natAbs / y.natAbs + 1) = x / y) ∧ (¬ x - sgn b (x.natAbs / y.natAbs) * y < 0 → sgn b (x.natAbs / y.natAbs) = x / y) := by
  subst hb
  obtain ⟨m, rfl⟩ := Int.eq_ofNat_of_zero_le (Int.le_of_lt hy)
  have hm : 0 < m := by omega
  simp only [Int.natAbs_natCast]
  obtain ⟨n, hn⟩ : ∃ n, n = x.natAbs := ⟨_, rfl⟩
  rw [← hn]
  have e := Nat.mod_add_div n m
  have hl := Nat.mod_lt n hm
  obtain ⟨q, hq⟩ : ∃ q, q = n / m := ⟨_, rfl⟩
  rw [← hq] at e ⊢
  have e2 : ((n % m : Nat) : Int) + (m : Int) * (q : Int) = n := by exact_mod_cast e
  by_cases hx : x < 0
  · have hxn : x = -(n : Int) := by omega
    simp only [hx, decide_true, sgn, if_true]
    have e3 : x - -(q : Int) * (m : Int) = -((n % m : Nat) : Int) := by rw [Int.neg_mul, Int.mul_comm (q : Int)]; omega
    rw [e3]
    constructor
    · intro h
      symm
      rw [hxn, Int.ediv_eq_iff_of_pos hy]
      have : -((q + 1 : Nat) : Int) * (m : Int) = -((m : Int) * q) - m := by
        rw [Int.neg_mul, Int.natCast_add, Int.add_mul, Int.mul_comm (q : Int)]; omega
      rw [this]; omega
    · intro h
      symm
      rw [hxn, Int.ediv_eq_iff_of_pos hy]
      have : -(q : Int) * (m : Int) = -((m : Int) * q) := by rw [Int.neg_mul, Int.mul_comm (q : Int)]
      rw [this]; omega
  · have hxn : x = (n : Int) := by omega
    simp only [hx, decide_false, sgn]
    have e3 : x - (q : Int) * (m : Int) = ((n % m : Nat) : Int) := by rw [Int.mul_comm (q : Int)]; omega
    simp only [Bool.false_eq_true, if_false]
    rw [e3]
    constructor
    · intro h; omega
    · intro _
      rw [hxn, hq]; simp
theorem sgn_mul_le (b : Bool) (n m : Nat) (y : Int) (hm : m = y.natAbs) : (sgn b (n / m) * y).natAbs ≤ n ∧ (sgn b (n / m + 1) * y).natAbs ≤ n + m := by
  subst hm
  rw [Int.natAbs_mul, Int.natAbs_mul, sgn_abs, sgn_abs]
  have := Nat.div_mul_le_self n y.natAbs
  rw [Nat.add_mul]
  omega
theorem rem_abs {x y : Int} {b : Bool} (hb : b = decide (x < 0)) (hy : 0 < y) : (x - sgn b (x.natAbs / y.natAbs) * y).natAbs ≤ x.natAbs := by
  subst hb
  obtain ⟨m, rfl⟩ := Int.eq_ofNat_of_zero_le (Int.le_of_lt hy)
  simp only [Int.natAbs_natCast]
  obtain ⟨n, hn⟩ : ∃ n, n = x.natAbs := ⟨_, rfl⟩
  rw [← hn]
  have e := Nat.mod_add_div n m
  have hl := Nat.mod_le n m
  obtain ⟨q, hq⟩ : ∃ q, q = n / m := ⟨_, rfl⟩
  rw [← hq] at e ⊢
  have e2 : ((n % m : Nat) : Int) + (m : Int) * (q : Int) = n := by exact_mod_cast e
  by_cases hx : x < 0
  · simp only [hx, decide_true, sgn, if_true]
    rw [Int.neg_mul, Int.mul_comm (q : Int)]; omega
  · simp only [hx, decide_false, sgn, Bool.false_eq_true, if_false]
    rw [Int.mul_comm (q : Int)]; omega
theorem rem_fl {x y : Int} (hy : 0 < y) : (x - x / y * y).natAbs ≤ y.natAbs := by
  have h1 := Int.emod_add_mul_ediv x y
  have h2 := Int.emod_nonneg x (by omega : y ≠ 0)
  have h3 := Int.emod_lt_of_pos x hy
  rw [Int.mul_comm] at h1
  omega
theorem Nt.drew {w : World} {s : Value} {n : Nat} (h : Nt w s n) : Nt w.drew s n := h
theorem Whp.drew {w : World} {b : Bool} {s : Value} {z : Int} (h : Whp w b s z) : Whp w.drew b s z := h
/-- the arguments' boxes and the results' ones -/
def DSt (W : World) (A : Nat) (b : Bool) (s t : Value) (x y : Int) : Prop :=
  BxAt W A [.bool b, s] ∧ BxAt W (A + 1) [.bool false, t] ∧ BxAt W (A + 1 + 1) [.bool false, .slice none 0 0] ∧ BxAt W (A + 1 + 1 + 1) [.bool false, .slice none 0 0] ∧ Whp W b s x ∧ Whp W false t y
theorem DSt.later {W W1 : World} {A : Nat} {b : Bool} {s t : Value} {x y : Int} (h : DSt W A b s t x y) (hb : Below W.heap.size W W1) : DSt W1 A b s t x y :=
  ⟨h.1.later hb, h.2.1.later hb, h.2.2.1.later hb, h.2.2.2.1.later hb, h.2.2.2.2.1.later hb, h.2.2.2.2.2.later hb⟩
theorem BxAt.far2 {w : World} {g g' : Nat} {cs : List Value} (h : BxAt w g cs) (x y : Value) (hne : g' ≠ g) : BxAt ((w.setCell ⟨g', 0, none⟩ x).setCell ⟨g', 1, none⟩ y) g cs :=
  ⟨by simpa using h.1, fun k => by rw [World.frozen?_setCell, World.frozen?_setCell]; exact h.2.1 k, fun k u hu => cell2_far (h.2.2 k u hu) hne⟩
theorem BxAt.put2 {w : World} {g : Nat} {u0 u1 : Value} (h : BxAt w g [u0, u1]) (x y : Value) : BxAt ((w.setCell ⟨g, 0, none⟩ x).setCell ⟨g, 1, none⟩ y) g [x, y] := by
  refine ⟨by simpa using h.1, fun k => by rw [World.frozen?_setCell, World.frozen?_setCell]; exact h.2.1 k, fun k u hu => ?_⟩
  have c1 := h.other 0 1 x u1 (by omega) rfl
  match k, hu with
  | 0, hu =>
    rw [World.cell?_setCell_other, World.cell?_setCell_same _ _ _ (h.2.2 0 u0 rfl)]
    · exact hu
    · intro e; simp only [Addr.mk.injEq] at e; omega
  | 1, hu =>
    rw [World.cell?_setCell_same _ _ _ c1]
    exact hu
  | k + 2, hu => cases hu
theorem DSt.far {w : World} {A : Nat} {b : Bool} {s t : Value} {x y : Int} {g : Nat} {b0 : Bool} {p0 : Option Addr} {n0 c0 : Nat} (h : DSt w A b s t x y) (X : BxAt w g [.bool b0, .slice p0 n0 c0]) (u v : Value) (hg : A + 1 + 1 + 1 < g) : DSt ((w.setCell ⟨g, 0, none⟩ u).setCell ⟨g, 1, none⟩ v) A b s t x y :=
  ⟨h.1.far2 _ _ (by omega), h.2.1.far2 _ _ (by omega), h.2.2.1.far2 _ _ (by omega), h.2.2.2.1.far2 _ _ (by omega), h.2.2.2.2.1.store2 _ _ X, h.2.2.2.2.2.store2 _ _ X⟩
set_option maxRecDepth 100000 in
set_option maxHeartbeats 6400000 in
theorem WDiv_any (b c : Bool) (s t : Value) (x y : Int) (w : World) (hx : Small x.natAbs) (hy0 : 0 < y) (hxy : Small (x.natAbs + y.natAbs)) (h : Whp w b s x) (h2 : Whp w c t y) :
    Calls Try.prog 82 #[.agg #[.bool b, s], .agg #[.bool c, t]] w (WDivPost x y w) := by
  have hc : c = false := by rw [h2.1]; exact decide_eq_false (by omega)
  subst hc
  have DU := Lib.hid (div_up h.1 hy0)
  have RA := Lib.hid (rem_abs h.1 hy0)
  have SL := Lib.hid (sgn_mul_le b x.natAbs y.natAbs y rfl)
  have HX := Lib.hid hx
  have HY : Hid (Small y.natAbs) := Lib.hid (hxy.le (by omega))
  have HXY := Lib.hid hxy
  have HY0 := Lib.hid hy0
  have AC := Lib.hid (And.intro h h2)
  clear h h2 hx hxy hy0
  go_enter Try.func82, Try.ntmps82
  obtain ⟨w0, hw0, x0, y0, z0, v0, b0⟩ := bx4 w b s false t
  have D0 := Lib.hid (show DSt w0 w.heap.size b s t x y from ⟨x0, y0, z0, v0, AC.out.1.later b0, AC.out.2.later b0⟩)
  have B0 := Lib.hid b0
  clear x0 y0 z0 v0 b0 AC
  have d0 := D0.out.2.1.2.2 0 _ rfl
  have d1 := D0.out.2.1.2.2 1 _ rfl
  go_wp2_with fail
  clear hw0
  refine (Sign_any false t y w0 HY.out D0.out.2.2.2.2.2).mono ?_
  rintro e w1 ⟨rfl, hb1⟩
  rw [Int.sign_eq_one_of_pos HY0.out]
  have D1 := Lib.hid (D0.out.later hb1)
  have B1 := Lib.hid (bthen B0.out hb1)
  clear hb1 d0 d1
  have c1 := D1.out.1.2.2 1 _ rfl
  have d1 := D1.out.2.1.2.2 1 _ rfl
  go_wp2_with fail
  refine (Div_any s t x.natAbs y.natAbs w1 HX.out HY.out (by have := HY0.out; omega) D1.out.2.2.2.2.1.2 D1.out.2.2.2.2.2.2).mono ?_
  rintro e w2 ⟨⟨v2, u2, rfl, hq, hr⟩, hb2⟩
  have Q2 := Lib.hid hq
  have D2 := Lib.hid (D1.out.later hb2)
  have B2 := Lib.hid (bthen B1.out hb2)
  clear hb2 c1 d1 hq hr
  have c0 := D2.out.1.2.2 0 _ rfl
  have d0 := D2.out.2.1.2.2 0 _ rfl
  go_wp2_with fail
  refine (Make_any b v2 (x.natAbs / y.natAbs) w2 (HX.out.le (Nat.div_le_self _ _)) Q2.out).mono ?_
  rintro e w3 ⟨⟨b3, s3, rfl, h3⟩, hb3⟩
  obtain ⟨ps, ns, cs, rfl⟩ := h3.form
  have Q3 := Lib.hid (Q2.out.later hb3)
  have D3 := Lib.hid (D2.out.later hb3)
  have B3 := Lib.hid (bthen B2.out hb3)
  have M3 := Lib.hid h3
  clear hb3 c0 d0 h3
  go_wp2_with fail
  obtain ⟨w4, hw4⟩ : ∃ w4, w4 = w3.alloc (.cells #[.bool b3, .slice ps ns cs] 103) := ⟨_, rfl⟩
  obtain ⟨P, hP⟩ : ∃ P, P = w3.heap.size := ⟨_, rfl⟩
  obtain ⟨x1, hx1⟩ : ∃ x1, x1 = sgn b (x.natAbs / y.natAbs) := ⟨_, rfl⟩
  rw [← hx1] at DU RA SL M3
  have P4 := Lib.hid (show BxAt w4 P [.bool b3, .slice ps ns cs] by rw [hw4, hP]; exact BxAt.new w3 _ _)
  have B34 : Below w3.heap.size w3 w4 := by rw [hw4]; exact below_alloc _ _
  have M4 := Lib.hid (M3.out.later B34)
  have Q4 := Lib.hid (Q3.out.later B34)
  have D4 := Lib.hid (D3.out.later B34)
  have B4 := Lib.hid (bthen B3.out B34)
  have zP : w.heap.size + 1 + 1 + 1 < P := by rw [hP]; exact D3.out.2.2.2.1.1
  have zW : P < w4.heap.size := P4.out.1
  rw [← hw4, ← hP]
  have HX1 := Lib.hid hx1
  clear hw4 hP hx1 B34 Q2 Q3 D0 D1 D2 D3 B0 B1 B2 B3 M3
  have hs1 : Hid (Small x1.natAbs) := Lib.hid (by rw [HX1.out, sgn_abs]; exact HX.out.le (Nat.div_le_self _ _))
  have hs2 : Hid (Small (x1 * y).natAbs) := Lib.hid (HX.out.le SL.out.1)
  have hs3 : Hid (Small (x - x1 * y).natAbs) := Lib.hid (HX.out.le RA.out)
  go_cut [11] (fun s11 wx => ∃ g b6 pr nr cr, s11 = .pointer (some ⟨g, 0, none⟩) ∧ P < g ∧ BxAt wx g [.bool b6, .slice pr nr cr] ∧ Whp wx b6 (.slice pr nr cr) (x - x1 * y) ∧ Below w4.heap.size w4 wx)
  case first =>
    have a0 := D4.out.1.2.2 0 _ rfl
    have a1 := D4.out.1.2.2 1 _ rfl
    have c0 := D4.out.2.1.2.2 0 _ rfl
    have c1 := D4.out.2.1.2.2 1 _ rfl
    have p0 := P4.out.2.2 0 _ rfl
    have p1 := P4.out.2.2 1 _ rfl
    go_region_held3 (fun w' => w'.cell? ⟨w.heap.size, 0, none⟩ = some (.bool b) ∧ w'.cell? ⟨w.heap.size, 1, none⟩ = some s ∧ w'.cell? ⟨w.heap.size + 1, 0, none⟩ = some (.bool false) ∧ w'.cell? ⟨w.heap.size + 1, 1, none⟩ = some t ∧ w'.cell? ⟨P, 0, none⟩ = some (.bool b3) ∧ w'.cell? ⟨P, 1, none⟩ = some (.slice ps ns cs))
      (first | exact ⟨a0, a1, c0, c1, p0, p1⟩ | (refine ⟨?_, ?_, ?_, ?_, ?_, ?_⟩ <;> (first | assumption | exact cell_alloc _ (by assumption) | exact cell2_far (by assumption) (by omega) | exact cell2_far (cell_alloc _ (by assumption)) (by omega))))
      (first
        | (go_at_call 62; refine (WMul_any _ _ _ _ x1 y _ hs1.out HY.out hs2.out (by first | exact M4.out.drew | exact (M4.out.later (below_alloc _ _)).drew) (by first | exact D4.out.2.2.2.2.2.drew | exact (D4.out.2.2.2.2.2.later (below_alloc _ _)).drew)).mono ?_; rintro e w5 ⟨⟨b5, s5, rfl, h5⟩, hb5⟩; have k5 : Below w4.heap.size w4 w5 := (by first | exact hb5 | exact bel_drew hb5 | exact bthen (below_alloc _ _) (bel_drew hb5) | exact bthen (below_alloc _ _) hb5); have z5 := k5.size; have a0' := cell_later k5 a0; have a1' := cell_later k5 a1; have c0' := cell_later k5 c0; have c1' := cell_later k5 c1; have p0' := cell_later k5 p0; have p1' := cell_later k5 p1; first | (have N5 : BxAt w5 w4.heap.size [.bool false, .slice none 0 0] := (BxAt.new w4 [.bool false, .slice none 0 0] 103).later (bel_drew hb5)) | skip)
        | (go_at_call 90; refine (WSub_any _ _ _ _ x (x1 * y) _ HX.out hs2.out hs3.out (by first | exact D4.out.2.2.2.2.1.later k5 | exact (D4.out.2.2.2.2.1.later k5).later (below_alloc _ _)) (by first | exact h5 | exact h5.later (below_alloc _ _))).mono ?_; rintro e w6 ⟨⟨b6, s6, rfl, h6⟩, hb6⟩; obtain ⟨pr, nr, cr, rfl⟩ := h6.form; have k6 : Below w5.heap.size w5 w6 := (by first | exact hb6 | exact bthen (below_alloc _ _) hb6); have z6 := k6.size; have a0'' := cell_later k6 a0'; have a1'' := cell_later k6 a1'; have c0'' := cell_later k6 c0'; have c1'' := cell_later k6 c1'; have p0'' := cell_later k6 p0'; have p1'' := cell_later k6 p1'; first | (have N6 := N5.later k6; have n0 := N6.2.2 0 _ rfl; have n1 := N6.2.2 1 _ rfl; have nf := N6.2.1) | (have N6 : BxAt w6 w5.heap.size [.bool false, .slice none 0 0] := (BxAt.new w5 [.bool false, .slice none 0 0] 103).later hb6; have n0 := N6.2.2 0 _ rfl; have n1 := N6.2.2 1 _ rfl; have nf := N6.2.1) | skip))
    all_goals go_wp2_with fail
    all_goals go_meet
    · exact ⟨w6.heap.size, b6, pr, nr, cr, rfl, by omega, BxAt.new w6 _ _, h6.later (below_alloc _ _), bthen (bthen k5 k6) (below_alloc _ _)⟩
    · exact ⟨w5.heap.size, b6, pr, nr, cr, rfl, by omega, N6.put2 _ _, h6.store2 _ _ N6, below_store2 (bthen k5 k6) z5 _ _⟩
    · exact ⟨w4.heap.size, b6, pr, nr, cr, rfl, by omega, N6.put2 _ _, h6.store2 _ _ N6, below_store2 (bthen k5 k6) (Nat.le_refl _) _ _⟩
  case rest =>
    obtain ⟨g, b6, pr, nr, cr, rfl, hPg, xg, hr6, hbx⟩ := hcut
    have G6 := Lib.hid xg
    have R6 := Lib.hid hr6
    have D6 := Lib.hid (D4.out.later hbx)
    have P6 := Lib.hid (P4.out.later hbx)
    have M6 := Lib.hid (M4.out.later hbx)
    have Q6 := Lib.hid (Q4.out.later hbx)
    have B6 := Lib.hid (bthen B4.out hbx)
    have g0 := xg.2.2 0 _ rfl
    have g1 := xg.2.2 1 _ rfl
    clear xg hr6 hbx D4 P4 M4 Q4 B4 zW
    go_wp2_with fail
    refine (Sign_any b6 (.slice pr nr cr) (x - x1 * y) wc hs3.out R6.out).mono ?_
    rintro e w7 ⟨rfl, hb7⟩
    have G7 := Lib.hid (G6.out.later hb7)
    have D7 := Lib.hid (D6.out.later hb7)
    have P7 := Lib.hid (P6.out.later hb7)
    have M7 := Lib.hid (M6.out.later hb7)
    have Q7 := Lib.hid (Q6.out.later hb7)
    have B7 := Lib.hid (bthen B6.out hb7)
    clear hb7 g0 g1 G6 D6 P6 M6 Q6 B6 R6
    by_cases hr0 : x - x1 * y < 0
    · rw [Int.sign_eq_neg_one_of_neg hr0]
      have DU1 := Lib.hid (DU.out.1 hr0)
      clear hr0
      have hs4 : Hid (Small (x.natAbs / y.natAbs + 1)) := Lib.hid (HXY.out.le (by have := Nat.div_le_self x.natAbs y.natAbs; have := HY0.out; omega))
      have hs5 : Hid (Small (x / y).natAbs) := Lib.hid (by rw [← DU1.out, sgn_abs]; exact hs4.out)
      have hs6 : Hid (Small (x / y * y).natAbs) := Lib.hid (by rw [← DU1.out]; exact HXY.out.le SL.out.2)
      have hs7 : Hid (Small (x - x / y * y).natAbs) := Lib.hid (HY.out.le (rem_fl HY0.out))
      have a0 := D7.out.1.2.2 0 _ rfl
      have c0 := D7.out.2.1.2.2 0 _ rfl
      go_wp2_with fail
      go_region_held3 (fun w' => w'.cell? ⟨w.heap.size, 0, none⟩ = some (.bool b) ∧ w'.cell? ⟨w.heap.size + 1, 0, none⟩ = some (.bool false))
        (first | exact ⟨a0, c0⟩ | (refine ⟨?_, ?_⟩ <;> (first | assumption | exact cell_alloc _ (by assumption) | exact cell2_far (by assumption) (by omega))))
        (first
          | (go_at_call 77; refine (Add_any _ _ (x.natAbs / y.natAbs) 1 _ (HX.out.le (Nat.div_le_self _ _)) (Small.of (by omega)) (Q7.out.later (below_alloc _ _)).drew (nt_new1 w7).drew).mono ?_; rintro e w8 ⟨⟨v8, rfl, h8⟩, hb8⟩; have k8 : Below w7.heap.size w7 w8 := bthen (below_alloc _ _) (bel_drew hb8); have a0' := cell_later k8 a0; have c0' := cell_later k8 c0)
          | (go_at_call 75; refine (Make_any _ _ (x.natAbs / y.natAbs + 1) _ hs4.out (by assumption)).mono ?_; rintro e w9 ⟨⟨b9, s9, rfl, h9⟩, hb9⟩; obtain ⟨pq, nq, cq, rfl⟩ := h9.form; have a0'' := cell_later hb9 a0'; have c0'' := cell_later hb9 c0'; have P9 := (P7.out.later k8).later hb9; have p0 := P9.2.2 0 _ rfl; have p1 := P9.2.2 1 _ rfl; have pf := P9.2.1))
      go_wp2_with fail
      have k9 := bthen k8 hb9
      obtain ⟨wa, hwa⟩ : ∃ wa, wa = (w9.setCell ⟨P, 0, none⟩ (.bool b9)).setCell ⟨P, 1, none⟩ (.slice pq nq cq) := ⟨_, rfl⟩
      rw [← hwa]
      have D10 : Hid (DSt wa w.heap.size b s t x y) := Lib.hid (by rw [hwa]; exact (D7.out.later k9).far P9 _ _ zP)
      have P10 : Hid (BxAt wa P [.bool b9, .slice pq nq cq]) := Lib.hid (by rw [hwa]; exact P9.put2 _ _)
      have M10 : Hid (Whp wa b9 (.slice pq nq cq) (x / y)) := Lib.hid (by rw [hwa]; rw [DU1.out] at h9; exact h9.store2 _ _ P9)
      have G10 : Hid (BxAt wa g [.bool b6, .slice pr nr cr]) := Lib.hid (by rw [hwa]; exact (G7.out.later k9).far2 _ _ (by omega))
      have B10 : Hid (Below w.heap.size w wa) := Lib.hid (by rw [hwa]; exact below_store2 (bthen B7.out k9) (by omega) _ _)
      clear hwa a0 c0 a0' c0' a0'' c0'' p0 p1 pf P9 k8 k9 hb8 hb9 h8 h9 D7 P7 M7 Q7 G7 B7
      have a0 := D10.out.1.2.2 0 _ rfl
      have a1 := D10.out.1.2.2 1 _ rfl
      have c0 := D10.out.2.1.2.2 0 _ rfl
      have c1 := D10.out.2.1.2.2 1 _ rfl
      have p0 := P10.out.2.2 0 _ rfl
      have p1 := P10.out.2.2 1 _ rfl
      go_region_held3 (fun w' => w'.cell? ⟨w.heap.size, 0, none⟩ = some (.bool b) ∧ w'.cell? ⟨w.heap.size, 1, none⟩ = some s ∧ w'.cell? ⟨w.heap.size + 1, 0, none⟩ = some (.bool false) ∧ w'.cell? ⟨w.heap.size + 1, 1, none⟩ = some t ∧ w'.cell? ⟨P, 0, none⟩ = some (.bool b9) ∧ w'.cell? ⟨P, 1, none⟩ = some (.slice pq nq cq))
        (first | exact ⟨a0, a1, c0, c1, p0, p1⟩ | (refine ⟨?_, ?_, ?_, ?_, ?_, ?_⟩ <;> (first | assumption | exact cell2_far (by assumption) (by omega))))
        (first
          | (go_at_call 62; refine (WMul_any _ _ _ _ (x / y) y _ hs5.out HY.out hs6.out M10.out.drew D10.out.2.2.2.2.2.drew).mono ?_; rintro e wb ⟨⟨b5, s5, rfl, h5⟩, hb5⟩; have kb : Below wa.heap.size wa wb := bel_drew hb5; have a0' := cell_later kb a0; have a1' := cell_later kb a1; have c0' := cell_later kb c0; have c1' := cell_later kb c1; have p0' := cell_later kb p0; have p1' := cell_later kb p1)
          | (go_at_call 90; refine (WSub_any _ _ _ _ x (x / y * y) _ HX.out hs6.out hs7.out (D10.out.2.2.2.2.1.later kb) h5).mono ?_; rintro e wd ⟨⟨b7, s7, rfl, h7⟩, hb7⟩; obtain ⟨pt', nt', ct', rfl⟩ := h7.form; have a0'' := cell_later hb7 a0'; have a1'' := cell_later hb7 a1'; have c0'' := cell_later hb7 c0'; have c1'' := cell_later hb7 c1'; have p0'' := cell_later hb7 p0'; have p1'' := cell_later hb7 p1'; have G12 := (G10.out.later kb).later hb7; have g0 := G12.2.2 0 _ rfl; have g1 := G12.2.2 1 _ rfl; have gf := G12.2.1))
      go_wp2_with fail
      have kd := bthen kb hb7
      obtain ⟨we, hwe⟩ : ∃ we, we = (wd.setCell ⟨g, 0, none⟩ (.bool b7)).setCell ⟨g, 1, none⟩ (.slice pt' nt' ct') := ⟨_, rfl⟩
      rw [← hwe]
      have D14 : Hid (DSt we w.heap.size b s t x y) := Lib.hid (by rw [hwe]; exact (D10.out.later kd).far G12 _ _ (by omega))
      have P14 : Hid (BxAt we P [.bool b9, .slice pq nq cq]) := Lib.hid (by rw [hwe]; exact (P10.out.later kd).far2 _ _ (by omega))
      have M14 : Hid (Whp we b9 (.slice pq nq cq) (x / y)) := Lib.hid (by rw [hwe]; exact (M10.out.later kd).store2 _ _ G12)
      have G14 : Hid (BxAt we g [.bool b7, .slice pt' nt' ct']) := Lib.hid (by rw [hwe]; exact G12.put2 _ _)
      have B14 : Hid (Below w.heap.size w we) := Lib.hid (by rw [hwe]; exact below_store2 (bthen B10.out kd) (by omega) _ _)
      clear hwe a0 a1 c0 c1 p0 p1 a0' a1' c0' c1' p0' p1' a0'' a1'' c0'' c1'' p0'' p1'' g0 g1 gf G12 kb kd hb5 hb7 h5 h7 D10 P10 M10 G10 B10
      have p0 := P14.out.2.2 0 _ rfl
      have p1 := P14.out.2.2 1 _ rfl
      have g0 := G14.out.2.2 0 _ rfl
      have g1 := G14.out.2.2 1 _ rfl
      have z0 := D14.out.2.2.1.2.2 0 _ rfl
      have z1 := D14.out.2.2.1.2.2 1 _ rfl
      have zf := D14.out.2.2.1.2.1
      have v0 := D14.out.2.2.2.1.2.2 0 _ rfl
      have v1 := D14.out.2.2.2.1.2.2 1 _ rfl
      have vf := D14.out.2.2.2.1.2.1
      go_region
      all_goals go_wp2_with fail
      all_goals
        refine bodyPost_ret (v := .tuple #[.agg #[.bool b9, .slice pq nq cq], .agg #[.bool b7, .slice pt' nt' ct'], .bool true]) ?_ rfl ⟨⟨_, _, _, _, _, _, rfl, ?_⟩, ?_⟩
        · simp [results, Try.results82, go_sem, z0, z1, v0, v1]
        · first
            | exact Whp.drew ((M14.out.store2 _ _ D14.out.2.2.1).store2 _ _ (D14.out.2.2.2.1.far2 _ _ (by omega)))
            | exact Whp.drew ((M14.out.store2 _ _ D14.out.2.2.2.1).store2 _ _ (D14.out.2.2.1.far2 _ _ (by omega)))
        · exact (below_store2 (below_store2 B14.out (by omega) _ _) (by omega) _ _).drew
    · obtain ⟨sg, hsg⟩ : ∃ sg, sg = (x - x1 * y).sign := ⟨_, rfl⟩
      have hsg0 : ¬ sg < 0 := by
        rw [hsg]
        rcases Int.lt_or_eq_of_le (Int.not_lt.1 hr0) with h | h
        · rw [Int.sign_eq_one_of_pos h]; omega
        · rw [← h]; simp
      have DU2 := Lib.hid (DU.out.2 (by omega))
      rw [← hsg]
      clear hsg hr0
      have p0 := P7.out.2.2 0 _ rfl
      have p1 := P7.out.2.2 1 _ rfl
      have g0 := G7.out.2.2 0 _ rfl
      have g1 := G7.out.2.2 1 _ rfl
      have z0 := D7.out.2.2.1.2.2 0 _ rfl
      have z1 := D7.out.2.2.1.2.2 1 _ rfl
      have zf := D7.out.2.2.1.2.1
      have v0 := D7.out.2.2.2.1.2.2 0 _ rfl
      have v1 := D7.out.2.2.2.1.2.2 1 _ rfl
      have vf := D7.out.2.2.2.1.2.1
      go_wp2_with fail
      go_region
      all_goals go_wp2_with fail
      all_goals
        refine bodyPost_ret (v := .tuple #[.agg #[.bool b3, .slice ps ns cs], .agg #[.bool b6, .slice pr nr cr], .bool true]) ?_ rfl ⟨⟨_, _, _, _, _, _, rfl, ?_⟩, ?_⟩
        · simp [results, Try.results82, go_sem, z0, z1, v0, v1]
        · rw [← DU2.out]
          first
            | exact Whp.drew ((M7.out.store2 _ _ D7.out.2.2.1).store2 _ _ (D7.out.2.2.2.1.far2 _ _ (by omega)))
            | exact Whp.drew ((M7.out.store2 _ _ D7.out.2.2.2.1).store2 _ _ (D7.out.2.2.1.far2 _ _ (by omega)))
        · exact (below_store2 (below_store2 B7.out (by omega) _ _) (by omega) _ _).drew
end Go.Proofs.Ythglgempbdaikaa
namespace Go.Proofs.Ythglgempbdaikaa
open Go.RowKit

theorem up_word (a k : Nat) : a / 4294967296 ^ (k + 1) * 4294967296 + a / 4294967296 ^ k % 4294967296 = a / 4294967296 ^ k := by
  rw [Nat.pow_succ, ← Nat.div_div_eq_div_mul]
  have := Nat.mod_add_div (a / 4294967296 ^ k) 4294967296
  omega
theorem low_sign {z : Int} (h : z.natAbs ≤ 281474976710656) : (z - -9223372036854775808).sign = 1 := Int.sign_eq_one_of_pos (by omega)
theorem high_sign {z : Int} (h : z.natAbs ≤ 281474976710656) : (z - 9223372036854775807).sign = -1 := Int.sign_eq_neg_one_of_neg (by omega)
theorem small_const : Small (-9223372036854775808 : Int).natAbs ∧ Small (9223372036854775807 : Int).natAbs := ⟨Small.of (by omega), Small.of (by omega)⟩
theorem small_diff {z : Int} (h : z.natAbs ≤ 281474976710656) : Small (z - -9223372036854775808).natAbs ∧ Small (z - 9223372036854775807).natAbs := by
  unfold Small M64
  omega
theorem i63_const : -I63 ≤ -9223372036854775808 ∧ (-9223372036854775808 : Int) < I63 ∧ -I63 ≤ 9223372036854775807 ∧ (9223372036854775807 : Int) < I63 := by unfold I63; omega
def WIntPost (z : Int) (w : World) (e : Ending) (w' : World) : Prop := e = .returned (.tuple #[.int .i64 z, .bool true]) ∧ Below w.heap.size w w'
set_option maxRecDepth 100000 in
set_option maxHeartbeats 3200000 in
theorem WInt_any (b : Bool) (s : Value) (z : Int) (w : World) (hz : z.natAbs ≤ 281474976710656) (h : Whp w b s z) :
    Calls Try.prog 66 #[.agg #[.bool b, s]] w (WIntPost z w) := by
  have A := Lib.hid h
  have L1 := Lib.hid (low_sign hz)
  have L2 := Lib.hid (high_sign hz)
  have SZ : Hid (Small z.natAbs) := Lib.hid (Small.of (by omega))
  have SD := Lib.hid (small_diff hz)
  have SV := Lib.hid (sgn_self h.1)
  obtain ⟨p, cap, rfl, hc⟩ := rd_cells (B := 4294967296) (by omega) h.2.1
  have la := SZ.out.dg32
  have la2 := dg_lt_pow (B := 4294967296) (by omega) z.natAbs
  obtain ⟨m, hm⟩ : ∃ m, m = z.natAbs := ⟨_, rfl⟩
  rw [← hm] at hc la la2 SV hz A ⊢
  obtain ⟨n, hn⟩ : ∃ n, n = (dg 4294967296 m).length := ⟨_, rfl⟩
  rw [← hn] at hc la la2 A ⊢
  have C := Lib.hid hc
  have HM := Lib.hid hm
  have HZ := Lib.hid hz
  have E0 : Hid (m / 4294967296 ^ n = 0) := Lib.hid (Nat.div_eq_of_lt la2)
  clear h hz hm hn hc la2
  go_enter Try.func66, Try.ntmps66
  obtain ⟨w0, hw0⟩ : ∃ w0, w0 = w.alloc (.cells #[.bool b, .slice p n cap] 103) := ⟨_, rfl⟩
  have X0 := Lib.hid (show BxAt w0 w.heap.size [.bool b, .slice p n cap] by rw [hw0]; exact BxAt.new w _ _)
  have B0 : Hid (Below w.heap.size w w0) := Lib.hid (by rw [hw0]; exact below_alloc _ _)
  have A := Lib.hid (A.out.later B0.out)
  have e0 : w.alloc (.cells #[.bool b, .slice p n cap] 103) = w0 := hw0.symm
  clear hw0
  have a0 := X0.out.2.2 0 _ rfl
  have a1 := X0.out.2.2 1 _ rfl
  go_wp2_with fail
  clear e0
  obtain ⟨lo, hlo⟩ : ∃ lo : Int, lo = -9223372036854775808 := ⟨_, rfl⟩
  obtain ⟨hi, hhi⟩ : ∃ hi : Int, hi = 9223372036854775807 := ⟨_, rfl⟩
  rw [← hlo, ← hhi]
  have C1 : Hid (-I63 ≤ lo ∧ lo < I63 ∧ -I63 ≤ hi ∧ hi < I63) := Lib.hid (by rw [hlo, hhi]; exact i63_const)
  rw [← hlo] at L1
  rw [← hhi] at L2
  rw [← hlo, ← hhi] at SD
  have SC : Hid (Small lo.natAbs ∧ Small hi.natAbs) := Lib.hid (by rw [hlo, hhi]; exact small_const)
  clear hlo hhi
  go_region_held3 (fun w' => w'.cell? ⟨w.heap.size, 0, none⟩ = some (.bool b) ∧ w'.cell? ⟨w.heap.size, 1, none⟩ = some (.slice p n cap))
    (first | exact ⟨a0, a1⟩ | exact ⟨by assumption, by assumption⟩)
    (first
      | (go_at_call 64; (with_reducible refine (WOf_any lo _ C1.out.1 C1.out.2.1).mono ?_); rintro e w1 ⟨⟨b1, s1, rfl, h1⟩, hb1⟩; have k1 : Below w0.heap.size w0 w1 := bel_drew hb1; have a0' := cell_later k1 a0; have a1' := cell_later k1 a1)
      | (go_at_call 81; (with_reducible refine (WCmp_any _ _ _ _ z lo _ SZ.out SC.out.1 SD.out.1 (A.out.later k1) h1).mono ?_); rintro e w2 ⟨rfl, hb2⟩; rw [L1.out]; have k2 := bthen k1 hb2; have a0'' := cell_later k2 a0; have a1'' := cell_later k2 a1)
      | (go_at_call 64; (with_reducible refine (WOf_any hi _ C1.out.2.2.1 C1.out.2.2.2).mono ?_); rintro e w3 ⟨⟨b3, s3, rfl, h3⟩, hb3⟩; have k3 := bthen k2 hb3; have a0q := cell_later k3 a0; have a1q := cell_later k3 a1)
      | (go_at_call 81; (with_reducible refine (WCmp_any _ _ _ _ z hi _ SZ.out SC.out.2 SD.out.2 (A.out.later k3) h3).mono ?_); rintro e w4 ⟨rfl, hb4⟩; rw [L2.out]; have k4 := bthen k3 hb4; have a0r := cell_later k4 a0; have a1r := cell_later k4 a1))
  go_wp2_with fail
  have C4 := Lib.hid (fun h0 => C.out h0)
  have K4 := Lib.hid k4
  clear a0 a1 a0' a1' a0'' a1'' a0q a1q hb1 hb2 hb3 hb4 h1 h3 k1 k2 k3 k4
  cases b
  · go_loop [4, 5] (fun x i => ∃ k : Nat, k ≤ n ∧ i = .int .i64 ((k : Int) - 1) ∧ x = .int .i64 (m / 4294967296 ^ k : Nat)) (fun _ i => (intOf i + 1).toNat)
    case atStart => exact ⟨n, by omega, rfl, by rw [E0.out]; rfl⟩
    case round =>
      obtain ⟨k, hk, rfl, rfl⟩ := hrel
      cases k with
      | zero =>
        go_wp2_with fail
        refine bodyPost_ret (v := .tuple #[.int .i64 z, .bool true]) ?_ rfl ⟨rfl, bthen B0.out K4.out⟩
        have e := SV.out
        simp [sgn] at e
        simp [results, Try.results66, go_sem, e]
      | succ k =>
        obtain ⟨g, off, rfl, hcc⟩ := C4.out (by omega)
        have c0 := cell_later K4.out (cell_later B0.out (hcc k (by omega)))
        have hk2 : (((k + 1 : Nat) : Int) - 1) = (k : Int) := by omega
        rw [hk2]
        have hu := up_word m k
        have hle : m / 4294967296 ^ k ≤ m := Nat.div_le_self _ _
        have hm0 := HZ.out
        obtain ⟨y, hy⟩ : ∃ y, y = m / 4294967296 ^ k := ⟨_, rfl⟩
        obtain ⟨x, hx⟩ : ∃ x, x = m / 4294967296 ^ (k + 1) := ⟨_, rfl⟩
        rw [← hx, ← hy] at hu
        rw [← hy] at c0 hle
        obtain ⟨d, hd⟩ : ∃ d, d = y % 4294967296 := ⟨_, rfl⟩
        rw [← hd] at hu c0
        have hd1 : d < 4294967296 := by omega
        have HY := Lib.hid (And.intro hy hu)
        have hx1 : x ≤ 65536 := by omega
        rw [← hx]
        clear hu hd hx hy hk2 hcc hle hm0
        go_wp2_with fail
        go_round
        case rel => exact ⟨k, by omega, by go_num, by rw [← HY.out.1]; exact congrArg (fun z => Value.int .i64 z) (by have := HY.out.2; omega)⟩
        case measure => (first | (simp [intOf]; done) | (simp [intOf]; omega) | (simp only [intOf]; omega))
  · go_loop [4, 5] (fun x i => ∃ k : Nat, k ≤ n ∧ i = .int .i64 ((k : Int) - 1) ∧ x = .int .i64 (-((m / 4294967296 ^ k : Nat) : Int))) (fun _ i => (intOf i + 1).toNat)
    case atStart => exact ⟨n, by omega, rfl, by rw [E0.out]; rfl⟩
    case round =>
      obtain ⟨k, hk, rfl, rfl⟩ := hrel
      cases k with
      | zero =>
        go_wp2_with fail
        refine bodyPost_ret (v := .tuple #[.int .i64 z, .bool true]) ?_ rfl ⟨rfl, bthen B0.out K4.out⟩
        have e := SV.out
        simp [sgn] at e
        simp [results, Try.results66, go_sem, e]
      | succ k =>
        obtain ⟨g, off, rfl, hcc⟩ := C4.out (by omega)
        have c0 := cell_later K4.out (cell_later B0.out (hcc k (by omega)))
        have hk2 : (((k + 1 : Nat) : Int) - 1) = (k : Int) := by omega
        rw [hk2]
        have hu := up_word m k
        have hle : m / 4294967296 ^ k ≤ m := Nat.div_le_self _ _
        have hm0 := HZ.out
        obtain ⟨y, hy⟩ : ∃ y, y = m / 4294967296 ^ k := ⟨_, rfl⟩
        obtain ⟨x, hx⟩ : ∃ x, x = m / 4294967296 ^ (k + 1) := ⟨_, rfl⟩
        rw [← hx, ← hy] at hu
        rw [← hy] at c0 hle
        obtain ⟨d, hd⟩ : ∃ d, d = y % 4294967296 := ⟨_, rfl⟩
        rw [← hd] at hu c0
        have hd1 : d < 4294967296 := by omega
        have HY := Lib.hid (And.intro hy hu)
        have hx1 : x ≤ 65536 := by omega
        rw [← hx]
        clear hu hd hx hy hk2 hcc hle hm0
        go_wp2_with fail
        go_round
        case rel => exact ⟨k, by omega, by go_num, by rw [← HY.out.1]; exact congrArg (fun z => Value.int .i64 z) (by have := HY.out.2; omega)⟩
        case measure => (first | (simp [intOf]; done) | (simp [intOf]; omega) | (simp only [intOf]; omega))
end Go.Proofs.Ythglgempbdaikaa
