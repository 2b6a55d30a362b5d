/- Contracts of the reference's fractions: the reducing of two numbers; worth, up. -/
import Derived.Test.YtbmbibjidpgbnaaWho6
import Derived.Test.YtbmbibjidpgbnaaNum16
namespace Go.Proofs.Ytbmbibjidpgbnaa
open Go.RowKit

def RedPost (a b : Nat) (w : World) (e : Ending) (w' : World) : Prop := (∃ v u, e = .returned (.tuple #[v, u]) ∧ Nt w' v (a / Nat.gcd a b) ∧ Nt w' u (b / Nat.gcd a b)) ∧ Below w.heap.size w w'
set_option maxRecDepth 100000 in
set_option maxHeartbeats 1600000 in
theorem Red_any (v u : Value) (a b : Nat) (w : World) (ha : Small a) (hb : Small b) (ha0 : 0 < a) (hb0 : 0 < b) (h : Nt w v a) (h2 : Nt w u b) :
    Calls Try.prog 97 #[v, u] w (RedPost a b w) := by
  have A := Lib.hid h
  have B := Lib.hid h2
  have HA := Lib.hid ha
  have HB := Lib.hid hb
  have HP := Lib.hid (And.intro ha0 hb0)
  have hg0 : 0 < Nat.gcd a b := Nat.gcd_pos_of_pos_left _ ha0
  have HG : Hid (Small (Nat.gcd a b)) := Lib.hid (ha.le (Nat.gcd_le_left _ ha0))
  clear h h2 ha hb ha0 hb0
  go_enter Try.func97, Try.ntmps97
  go_wp2_with fail
  refine (Gcd_any _ _ a b w HA.out HB.out HP.out.1 HP.out.2 A.out B.out).mono ?_
  rintro e w1 ⟨⟨v1, rfl, h1⟩, hb1⟩
  have G1 := Lib.hid h1
  have A := Lib.hid (A.out.later hb1)
  have B := Lib.hid (B.out.later hb1)
  have B1 := Lib.hid hb1
  obtain ⟨p, cap, rfl⟩ := h1.len
  clear h1 hb1
  obtain ⟨g, hg⟩ : ∃ g, g = Nat.gcd a b := ⟨_, rfl⟩
  rw [← hg] at hg0 HG G1 ⊢
  have HGE := Lib.hid hg
  have hn0 : 0 < (dg 4294967296 g).length := by
    rcases Nat.eq_zero_or_pos (dg 4294967296 g).length with h1 | h1
    · rw [dg_len_zero (by omega)] at h1; omega
    · exact h1
  obtain ⟨n, hn⟩ : ∃ n, n = (dg 4294967296 g).length := ⟨_, rfl⟩
  rw [← hn] at hn0 G1 ⊢
  have hz : ((n : Int) == 0) = false := by simp; omega
  clear hg hn
  go_wp2_with fail
  refine (Div_any _ _ a g w1 HA.out HG.out hg0 A.out G1.out).mono ?_
  rintro e w2 ⟨⟨v2, u2, rfl, hq, hr⟩, hb2⟩
  have Q2 := Lib.hid hq
  have B := Lib.hid (B.out.later hb2)
  have G2 := Lib.hid (G1.out.later hb2)
  have B2 := Lib.hid (bthen B1.out hb2)
  clear hq hr hb2 G1 B1
  go_wp2_with fail
  refine (Div_any _ _ b g w2 HB.out HG.out hg0 B.out G2.out).mono ?_
  rintro e w3 ⟨⟨v3, u3, rfl, hq, hr⟩, hb3⟩
  have Q3 := Lib.hid hq
  have Q2 := Lib.hid (Q2.out.later hb3)
  have B3 := Lib.hid (bthen B2.out hb3)
  clear hq hr hb3 B2
  go_wp2_with fail
  refine bodyPost_ret (v := .tuple #[v2, v3]) ?_ rfl ⟨⟨v2, v3, rfl, ?_, ?_⟩, B3.out⟩
  · simp [results, Try.results97, go_sem]
  · rw [← HGE.out]; exact Q2.out
  · rw [← HGE.out]; exact Q3.out
/-- a fraction's three cells -/
theorem BxAt.other' {w : World} {g : Nat} {cs : List Value} (h : BxAt w g cs) (i k : Nat) (x u : Value) (hne : i ≠ k) (hu : cs[k]? = some u) : (w.setCell ⟨g, i, none⟩ x).cell? ⟨g, k, none⟩ = some u := h.other i k x u hne hu
abbrev set3 (w : World) (g : Nat) (x y z : Value) : World := ((w.setCell ⟨g, 0, none⟩ x).setCell ⟨g, 1, none⟩ y).setCell ⟨g, 2, none⟩ z
theorem BxAt.put {w : World} {g : Nat} {cs : List Value} (h : BxAt w g cs) (i : Nat) (x : Value) (hi : i < cs.length) : BxAt (w.setCell ⟨g, i, none⟩ x) g (cs.set i x) := by
  refine ⟨by simpa using h.1, fun k => by rw [World.frozen?_setCell]; exact h.2.1 k, fun k u hu => ?_⟩
  rw [List.getElem?_set] at hu
  by_cases e : i = k
  · subst e
    rw [if_pos rfl, if_pos hi] at hu
    rw [World.cell?_setCell_same _ _ _ (h.2.2 i cs[i] (List.getElem?_eq_getElem hi))]
    exact hu
  · rw [if_neg e] at hu
    exact h.other i k x u e hu
theorem BxAt.put3 {w : World} {g : Nat} {u0 u1 u2 : Value} (h : BxAt w g [u0, u1, u2]) (x y z : Value) : BxAt (set3 w g x y z) g [x, y, z] :=
  ((h.put 0 x (by simp)).put 1 y (by simp)).put 2 z (by simp)
theorem BxAt.far1 {w : World} {g g' i : Nat} {cs : List Value} (h : BxAt w g cs) (x : Value) (hne : g' ≠ g) : BxAt (w.setCell ⟨g', i, none⟩ x) g cs := by
  refine ⟨by simpa using h.1, fun k => by rw [World.frozen?_setCell]; exact h.2.1 k, fun k u hu => ?_⟩
  rw [World.cell?_setCell_other]
  · exact h.2.2 k u hu
  · intro e; simp only [Addr.mk.injEq] at e; omega
theorem BxAt.far3 {w : World} {g g' : Nat} {cs : List Value} (h : BxAt w g cs) (x y z : Value) (hne : g' ≠ g) : BxAt (set3 w g' x y z) g cs := ((h.far1 x hne).far1 y hne).far1 z hne
theorem Nt.store3 {w : World} {v : Value} {n g : Nat} {b0 : Bool} {p0 : Option Addr} {n0 c0 : Nat} {p1 : Option Addr} {n1 c1 : Nat} (x y z : Value) (h : Nt w v n) (X : BxAt w g [.bool b0, .slice p0 n0 c0, .slice p1 n1 c1]) : Nt (set3 w g x y z) v n :=
  ((h.setCell _ (X.2.2 0 _ rfl) (by intro _ _ h; cases h)).setCell _ ((X.put 0 x (by simp)).2.2 1 _ rfl) (by intro _ _ h; cases h)).setCell _ (((X.put 0 x (by simp)).put 1 y (by simp)).2.2 2 _ rfl) (by intro _ _ h; cases h)
theorem Whp.store3 {w : World} {b : Bool} {s : Value} {q : Int} {g : Nat} {b0 : Bool} {p0 : Option Addr} {n0 c0 : Nat} {p1 : Option Addr} {n1 c1 : Nat} (x y z : Value) (h : Whp w b s q) (X : BxAt w g [.bool b0, .slice p0 n0 c0, .slice p1 n1 c1]) : Whp (set3 w g x y z) b s q :=
  ⟨h.1, h.2.store3 x y z X⟩
theorem below_store3 {B : Nat} {w0 w : World} {g : Nat} (h : Below B w0 w) (hg : B ≤ g) (x y z : Value) : Below B w0 (set3 w g x y z) :=
  ((h.setCell (p := ⟨g, 0, none⟩) hg _).setCell (p := ⟨g, 1, none⟩) hg _).setCell (p := ⟨g, 2, none⟩) hg _
/-- the fraction q: in lowest terms -/
def Frp (w : World) (b : Bool) (s d : Value) (q : Rat) : Prop := Whp w b s q.num ∧ Nt w d q.den
theorem Frp.later {w w1 : World} {b : Bool} {s d : Value} {q : Rat} (h : Frp w b s d q) (hb : Below w.heap.size w w1) : Frp w1 b s d q := ⟨h.1.later hb, h.2.later hb⟩
theorem Frp.drew {w : World} {b : Bool} {s d : Value} {q : Rat} (h : Frp w b s d q) : Frp w.drew b s d q := h
theorem Frp.store3 {w : World} {b : Bool} {s d : Value} {q : Rat} {g : Nat} {b0 : Bool} {p0 : Option Addr} {n0 c0 : Nat} {p1 : Option Addr} {n1 c1 : Nat} (x y z : Value) (h : Frp w b s d q) (X : BxAt w g [.bool b0, .slice p0 n0 c0, .slice p1 n1 c1]) : Frp (set3 w g x y z) b s d q :=
  ⟨h.1.store3 x y z X, h.2.store3 x y z X⟩
def FrPost (q : Rat) (w : World) (e : Ending) (w' : World) : Prop := (∃ b s d, e = .returned (.agg #[.bool b, s, d]) ∧ Frp w' b s d q) ∧ Below w.heap.size w w'
def SamePost (v : Value) (w : World) (e : Ending) (w' : World) : Prop := e = .returned v ∧ Below w.heap.size w w'
set_option maxRecDepth 100000 in
set_option maxHeartbeats 1600000 in
theorem worth_any (b : Bool) (s d : Value) (n : Nat) (w : World) (hn : Small n) (h0 : 0 < n) (hs : ∃ p m c, s = .slice p m c) (h : Nt w d n) :
    Calls Try.prog 76 #[.agg #[.bool b, s, d]] w (SamePost (.agg #[.bool b, s, d]) w) := by
  obtain ⟨ps, ms, cs, rfl⟩ := hs
  obtain ⟨pd, nd, cd, rfl⟩ := h.form
  have A := Lib.hid h
  have HN := Lib.hid (And.intro hn h0)
  clear h hn h0
  go_enter Try.func76, Try.ntmps76
  obtain ⟨w0, hw0⟩ : ∃ w0, w0 = (w.alloc (.cells #[.bool b, .slice ps ms cs, .slice pd nd cd] 106)).alloc (.cells #[.bool false, .slice none 0 0, .slice none 0 0] 106) := ⟨_, rfl⟩
  have X0 := Lib.hid (show BxAt w0 w.heap.size [.bool b, .slice ps ms cs, .slice pd nd cd] by rw [hw0]; exact bx_a w _ _ _)
  have Y0 := Lib.hid (show BxAt w0 (w.heap.size + 1) [.bool false, .slice none 0 0, .slice none 0 0] by rw [hw0]; exact bx_b w _ _ _)
  have B0 : Hid (Below w.heap.size w w0) := Lib.hid (by rw [hw0]; exact bel2 _ _ _)
  have e0 : (w.alloc (.cells #[.bool b, .slice ps ms cs, .slice pd nd cd] 106)).alloc (.cells #[.bool false, .slice none 0 0, .slice none 0 0] 106) = w0 := hw0.symm
  clear hw0
  have c2 := X0.out.2.2 2 _ rfl
  have A := Lib.hid (A.out.later B0.out)
  go_wp2_with fail
  clear e0
  refine (Bits_any _ n w0 HN.out.1 A.out).mono ?_
  rintro e w1 ⟨r, rfl, hr, hb1⟩
  have hr1 : (r == 0) = false := by
    have h0 := HN.out.2
    simp; intro e; have := hr.1 e; omega
  have X1 := Lib.hid (X0.out.later hb1)
  have Y1 := Lib.hid (Y0.out.later hb1)
  have B1 := Lib.hid (bthen B0.out hb1)
  clear hr hb1 c2
  have c0 := X1.out.2.2 0 _ rfl
  have c1 := X1.out.2.2 1 _ rfl
  have c2 := X1.out.2.2 2 _ rfl
  have r0 := Y1.out.2.2 0 _ rfl
  have r1 := Y1.out.2.2 1 _ rfl
  have r2 := Y1.out.2.2 2 _ rfl
  have rf := Y1.out.2.1
  go_wp2_with fail
  refine bodyPost_ret (v := .agg #[.bool b, .slice ps ms cs, .slice pd nd cd]) ?_ rfl ⟨rfl, below_store3 B1.out (by omega) _ _ _⟩
  simp [results, Try.results76, go_sem, r0, r1, r2]
set_option maxRecDepth 100000 in
set_option maxHeartbeats 1600000 in
theorem up_any (b : Bool) (s d : Value) (n : Nat) (w : World) (h : Nt w d n) : Calls Try.prog 79 #[.agg #[.bool b, s, d]] w (SamePost (.agg #[.bool false, d]) w) := by
  obtain ⟨pd, nd, cd, rfl⟩ := h.form
  clear h
  go_enter Try.func79, Try.ntmps79
  obtain ⟨w0, hw0⟩ : ∃ w0, w0 = (w.alloc (.cells #[.bool b, s, .slice pd nd cd] 106)).alloc (.cells #[.bool false, .slice none 0 0] 104) := ⟨_, rfl⟩
  have X0 := Lib.hid (show BxAt w0 w.heap.size [.bool b, s, .slice pd nd cd] by rw [hw0]; exact bx_a w _ _ _)
  have Y0 := Lib.hid (show BxAt w0 (w.heap.size + 1) [.bool false, .slice none 0 0] by rw [hw0]; exact bx_b w _ _ _)
  have B0 : Hid (Below w.heap.size w w0) := Lib.hid (by rw [hw0]; exact bel2 _ _ _)
  have e0 : (w.alloc (.cells #[.bool b, s, .slice pd nd cd] 106)).alloc (.cells #[.bool false, .slice none 0 0] 104) = w0 := hw0.symm
  clear hw0
  have c2 := X0.out.2.2 2 _ rfl
  have r0 := Y0.out.2.2 0 _ rfl
  have r1 := Y0.out.2.2 1 _ rfl
  have rf := Y0.out.2.1
  go_wp2_with fail
  refine bodyPost_ret (v := .agg #[.bool false, .slice pd nd cd]) ?_ rfl ⟨rfl, below_store2 B0.out (by omega) _ _⟩
  simp [results, Try.results79, go_sem, r0, r1]
end Go.Proofs.Ytbmbibjidpgbnaa
