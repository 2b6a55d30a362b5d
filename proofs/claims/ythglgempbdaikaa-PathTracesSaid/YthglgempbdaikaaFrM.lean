/- Contracts of the reference's fractions, rounding, and curves. -/
import Derived.Test.YthglgempbdaikaaPa1
import Derived.Test.YthglgempbdaikaaWhM
import Derived.Test.YthglgempbdaikaaNum16
import Derived.Test.YthglgempbdaikaaBez4
import Derived.Test.YthglgempbdaikaaBez3
import Derived.Test.YthglgempbdaikaaCur0
import Derived.StillTailTactics
namespace Go.Proofs.Ythglgempbdaikaa
open Go.RowKit

def RedPost (a b : Nat) (w : World) (e : Ending) (w' : World) : Prop := (∃ v u, e = .returned (.tuple #[v, u]) ∧ Nt w' v (a / Nat.gcd a b) ∧ Nt w' u (b / Nat.gcd a b)) ∧ Below w.heap.size w w'
set_option maxRecDepth 100000 in
set_option maxHeartbeats 1600000 in
theorem Red_any (v u : Value) (a b : Nat) (w : World) (ha : Small a) (hb : Small b) (ha0 : 0 < a) (hb0 : 0 < b) (h : Nt w v a) (h2 : Nt w u b) :
    Calls Try.prog 86 #[v, u] w (RedPost a b w) := by
  have A := Lib.hid h
  have B := Lib.hid h2
  have HA := Lib.hid ha
  have HB := Lib.hid hb
  have HP := Lib.hid (And.intro ha0 hb0)
  have hg0 : 0 < Nat.gcd a b := Nat.gcd_pos_of_pos_left _ ha0
  have HG : Hid (Small (Nat.gcd a b)) := Lib.hid (ha.le (Nat.gcd_le_left _ ha0))
  clear h h2 ha hb ha0 hb0
  go_enter Try.func86, Try.ntmps86
  go_wp2_with fail
  refine (Gcd_any _ _ a b w HA.out HB.out HP.out.1 HP.out.2 A.out B.out).mono ?_
  rintro e w1 ⟨⟨v1, rfl, h1⟩, hb1⟩
  have G1 := Lib.hid h1
  have A := Lib.hid (A.out.later hb1)
  have B := Lib.hid (B.out.later hb1)
  have B1 := Lib.hid hb1
  obtain ⟨p, cap, rfl⟩ := h1.len
  clear h1 hb1
  obtain ⟨g, hg⟩ : ∃ g, g = Nat.gcd a b := ⟨_, rfl⟩
  rw [← hg] at hg0 HG G1 ⊢
  have HGE := Lib.hid hg
  have hn0 : 0 < (dg 4294967296 g).length := by
    rcases Nat.eq_zero_or_pos (dg 4294967296 g).length with h1 | h1
    · rw [dg_len_zero (by omega)] at h1; omega
    · exact h1
  obtain ⟨n, hn⟩ : ∃ n, n = (dg 4294967296 g).length := ⟨_, rfl⟩
  rw [← hn] at hn0 G1 ⊢
  have hz : ((n : Int) == 0) = false := by simp; omega
  clear hg hn
  go_wp2_with fail
  refine (Div_any _ _ a g w1 HA.out HG.out hg0 A.out G1.out).mono ?_
  rintro e w2 ⟨⟨v2, u2, rfl, hq, hr⟩, hb2⟩
  have Q2 := Lib.hid hq
  have B := Lib.hid (B.out.later hb2)
  have G2 := Lib.hid (G1.out.later hb2)
  have B2 := Lib.hid (bthen B1.out hb2)
  clear hq hr hb2 G1 B1
  go_wp2_with fail
  refine (Div_any _ _ b g w2 HB.out HG.out hg0 B.out G2.out).mono ?_
  rintro e w3 ⟨⟨v3, u3, rfl, hq, hr⟩, hb3⟩
  have Q3 := Lib.hid hq
  have Q2 := Lib.hid (Q2.out.later hb3)
  have B3 := Lib.hid (bthen B2.out hb3)
  clear hq hr hb3 B2
  go_wp2_with fail
  refine bodyPost_ret (v := .tuple #[v2, v3]) ?_ rfl ⟨⟨v2, v3, rfl, ?_, ?_⟩, B3.out⟩
  · simp [results, Try.results86, go_sem]
  · rw [← HGE.out]; exact Q2.out
  · rw [← HGE.out]; exact Q3.out
/-- a fraction's three cells -/
theorem BxAt.other' {w : World} {g : Nat} {cs : List Value} (h : BxAt w g cs) (i k : Nat) (x u : Value) (hne : i ≠ k) (hu : cs[k]? = some u) : (w.setCell ⟨g, i, none⟩ x).cell? ⟨g, k, none⟩ = some u := h.other i k x u hne hu
abbrev set3 (w : World) (g : Nat) (x y z : Value) : World := ((w.setCell ⟨g, 0, none⟩ x).setCell ⟨g, 1, none⟩ y).setCell ⟨g, 2, none⟩ z
theorem BxAt.put3 {w : World} {g : Nat} {u0 u1 u2 : Value} (h : BxAt w g [u0, u1, u2]) (x y z : Value) : BxAt (set3 w g x y z) g [x, y, z] :=
  ((h.put 0 x (by simp)).put 1 y (by simp)).put 2 z (by simp)
theorem BxAt.far1 {w : World} {g g' i : Nat} {cs : List Value} (h : BxAt w g cs) (x : Value) (hne : g' ≠ g) : BxAt (w.setCell ⟨g', i, none⟩ x) g cs := by
  refine ⟨by simpa using h.1, fun k => by rw [World.frozen?_setCell]; exact h.2.1 k, fun k u hu => ?_⟩
  rw [World.cell?_setCell_other]
  · exact h.2.2 k u hu
  · intro e; simp only [Addr.mk.injEq] at e; omega
theorem BxAt.far3 {w : World} {g g' : Nat} {cs : List Value} (h : BxAt w g cs) (x y z : Value) (hne : g' ≠ g) : BxAt (set3 w g' x y z) g cs := ((h.far1 x hne).far1 y hne).far1 z hne
theorem Nt.store3 {w : World} {v : Value} {n g : Nat} {b0 : Bool} {p0 : Option Addr} {n0 c0 : Nat} {p1 : Option Addr} {n1 c1 : Nat} (x y z : Value) (h : Nt w v n) (X : BxAt w g [.bool b0, .slice p0 n0 c0, .slice p1 n1 c1]) : Nt (set3 w g x y z) v n :=
  ((h.setCell _ (X.2.2 0 _ rfl) (by intro _ _ h; cases h)).setCell _ ((X.put 0 x (by simp)).2.2 1 _ rfl) (by intro _ _ h; cases h)).setCell _ (((X.put 0 x (by simp)).put 1 y (by simp)).2.2 2 _ rfl) (by intro _ _ h; cases h)
theorem Whp.store3 {w : World} {b : Bool} {s : Value} {q : Int} {g : Nat} {b0 : Bool} {p0 : Option Addr} {n0 c0 : Nat} {p1 : Option Addr} {n1 c1 : Nat} (x y z : Value) (h : Whp w b s q) (X : BxAt w g [.bool b0, .slice p0 n0 c0, .slice p1 n1 c1]) : Whp (set3 w g x y z) b s q :=
  ⟨h.1, h.2.store3 x y z X⟩
theorem below_store3 {B : Nat} {w0 w : World} {g : Nat} (h : Below B w0 w) (hg : B ≤ g) (x y z : Value) : Below B w0 (set3 w g x y z) :=
  ((h.setCell (p := ⟨g, 0, none⟩) hg _).setCell (p := ⟨g, 1, none⟩) hg _).setCell (p := ⟨g, 2, none⟩) hg _
/-- the fraction q: in lowest terms -/
def Frp (w : World) (b : Bool) (s d : Value) (q : Rat) : Prop := Whp w b s q.num ∧ Nt w d q.den
theorem Frp.later {w w1 : World} {b : Bool} {s d : Value} {q : Rat} (h : Frp w b s d q) (hb : Below w.heap.size w w1) : Frp w1 b s d q := ⟨h.1.later hb, h.2.later hb⟩
theorem Frp.drew {w : World} {b : Bool} {s d : Value} {q : Rat} (h : Frp w b s d q) : Frp w.drew b s d q := h
theorem Frp.store3 {w : World} {b : Bool} {s d : Value} {q : Rat} {g : Nat} {b0 : Bool} {p0 : Option Addr} {n0 c0 : Nat} {p1 : Option Addr} {n1 c1 : Nat} (x y z : Value) (h : Frp w b s d q) (X : BxAt w g [.bool b0, .slice p0 n0 c0, .slice p1 n1 c1]) : Frp (set3 w g x y z) b s d q :=
  ⟨h.1.store3 x y z X, h.2.store3 x y z X⟩
def FrPost (q : Rat) (w : World) (e : Ending) (w' : World) : Prop := (∃ b s d, e = .returned (.agg #[.bool b, s, d]) ∧ Frp w' b s d q) ∧ Below w.heap.size w w'
def SamePost (v : Value) (w : World) (e : Ending) (w' : World) : Prop := e = .returned v ∧ Below w.heap.size w w'
set_option maxRecDepth 100000 in
set_option maxHeartbeats 1600000 in
theorem worth_any (b : Bool) (s d : Value) (n : Nat) (w : World) (hn : Small n) (h0 : 0 < n) (hs : ∃ p m c, s = .slice p m c) (h : Nt w d n) :
    Calls Try.prog 60 #[.agg #[.bool b, s, d]] w (SamePost (.agg #[.bool b, s, d]) w) := by
  obtain ⟨ps, ms, cs, rfl⟩ := hs
  obtain ⟨pd, nd, cd, rfl⟩ := h.form
  have A := Lib.hid h
  have HN := Lib.hid (And.intro hn h0)
  clear h hn h0
  go_enter Try.func60, Try.ntmps60
  obtain ⟨w0, hw0⟩ : ∃ w0, w0 = (w.alloc (.cells #[.bool b, .slice ps ms cs, .slice pd nd cd] 105)).alloc (.cells #[.bool false, .slice none 0 0, .slice none 0 0] 105) := ⟨_, rfl⟩
  have X0 := Lib.hid (show BxAt w0 w.heap.size [.bool b, .slice ps ms cs, .slice pd nd cd] by rw [hw0]; exact bx_a w _ _ _)
  have Y0 := Lib.hid (show BxAt w0 (w.heap.size + 1) [.bool false, .slice none 0 0, .slice none 0 0] by rw [hw0]; exact bx_b w _ _ _)
  have B0 : Hid (Below w.heap.size w w0) := Lib.hid (by rw [hw0]; exact bel2 _ _ _)
  have e0 : (w.alloc (.cells #[.bool b, .slice ps ms cs, .slice pd nd cd] 105)).alloc (.cells #[.bool false, .slice none 0 0, .slice none 0 0] 105) = w0 := hw0.symm
  clear hw0
  have c2 := X0.out.2.2 2 _ rfl
  have A := Lib.hid (A.out.later B0.out)
  go_wp2_with fail
  clear e0
  refine (Bits_any _ n w0 HN.out.1 A.out).mono ?_
  rintro e w1 ⟨r, rfl, hr, hb1⟩
  have hr1 : (r == 0) = false := by
    have h0 := HN.out.2
    simp; intro e; have := hr.1 e; omega
  have X1 := Lib.hid (X0.out.later hb1)
  have Y1 := Lib.hid (Y0.out.later hb1)
  have B1 := Lib.hid (bthen B0.out hb1)
  clear hr hb1 c2
  have c0 := X1.out.2.2 0 _ rfl
  have c1 := X1.out.2.2 1 _ rfl
  have c2 := X1.out.2.2 2 _ rfl
  have r0 := Y1.out.2.2 0 _ rfl
  have r1 := Y1.out.2.2 1 _ rfl
  have r2 := Y1.out.2.2 2 _ rfl
  have rf := Y1.out.2.1
  go_wp2_with fail
  refine bodyPost_ret (v := .agg #[.bool b, .slice ps ms cs, .slice pd nd cd]) ?_ rfl ⟨rfl, below_store3 B1.out (by omega) _ _ _⟩
  simp [results, Try.results60, go_sem, r0, r1, r2]
set_option maxRecDepth 100000 in
set_option maxHeartbeats 1600000 in
theorem up_any (b : Bool) (s d : Value) (n : Nat) (w : World) (h : Nt w d n) : Calls Try.prog 63 #[.agg #[.bool b, s, d]] w (SamePost (.agg #[.bool false, d]) w) := by
  obtain ⟨pd, nd, cd, rfl⟩ := h.form
  clear h
  go_enter Try.func63, Try.ntmps63
  obtain ⟨w0, hw0⟩ : ∃ w0, w0 = (w.alloc (.cells #[.bool b, s, .slice pd nd cd] 105)).alloc (.cells #[.bool false, .slice none 0 0] 103) := ⟨_, rfl⟩
  have X0 := Lib.hid (show BxAt w0 w.heap.size [.bool b, s, .slice pd nd cd] by rw [hw0]; exact bx_a w _ _ _)
  have Y0 := Lib.hid (show BxAt w0 (w.heap.size + 1) [.bool false, .slice none 0 0] by rw [hw0]; exact bx_b w _ _ _)
  have B0 : Hid (Below w.heap.size w w0) := Lib.hid (by rw [hw0]; exact bel2 _ _ _)
  have e0 : (w.alloc (.cells #[.bool b, s, .slice pd nd cd] 105)).alloc (.cells #[.bool false, .slice none 0 0] 103) = w0 := hw0.symm
  clear hw0
  have c2 := X0.out.2.2 2 _ rfl
  have r0 := Y0.out.2.2 0 _ rfl
  have r1 := Y0.out.2.2 1 _ rfl
  have rf := Y0.out.2.1
  go_wp2_with fail
  refine bodyPost_ret (v := .agg #[.bool false, .slice pd nd cd]) ?_ rfl ⟨rfl, below_store2 B0.out (by omega) _ _⟩
  simp [results, Try.results63, go_sem, r0, r1]
end Go.Proofs.Ythglgempbdaikaa
namespace Go.Proofs.Ythglgempbdaikaa
open Go.RowKit

theorem sgn_div {z : Int} {b : Bool} {g : Nat} (h : b = decide (z < 0)) (hg : g ∣ z.natAbs) : sgn b (z.natAbs / g) = z / (g : Int) := by
  subst h
  obtain ⟨k, hk⟩ := hg
  rcases Nat.eq_zero_or_pos g with h0 | h0
  · subst h0; simp [sgn]
  · rw [hk, Nat.mul_div_cancel_left _ h0]
    unfold sgn
    by_cases hz : z < 0
    · simp only [hz, decide_true, if_true]
      have e : z = (g : Int) * (-(k : Int)) := by rw [Int.mul_neg, ← Int.natCast_mul, ← hk]; omega
      rw [e, Int.mul_ediv_cancel_left _ (by omega)]
    · simp only [hz, decide_false, Bool.false_eq_true, if_false]
      have e : z = (g : Int) * (k : Int) := by rw [← Int.natCast_mul, ← hk]; omega
      rw [e, Int.mul_ediv_cancel_left _ (by omega)]
theorem red_rat {z : Int} {n : Nat} {b : Bool} (hn : 0 < n) (h : b = decide (z < 0)) : sgn b (z.natAbs / Nat.gcd z.natAbs n) = (mkRat z n).num ∧ n / Nat.gcd z.natAbs n = (mkRat z n).den := by
  rw [sgn_div h (Nat.gcd_dvd_left _ _), Rat.num_mkRat, Rat.den_mkRat, if_neg (by omega), if_neg (by omega), Nat.gcd_comm n]
  exact ⟨rfl, rfl⟩
theorem size_set3 (w : World) (g : Nat) (x y z : Value) : (set3 w g x y z).heap.size = w.heap.size := by simp [set3]
theorem nt_new1' {w : World} {g : Nat} (h : g = w.heap.size) : Nt (w.alloc (.cells #[.int .u32 1] 123)) (.slice (some ⟨g, 0, none⟩) 1 1) 1 := by subst h; exact nt_new1 w
theorem below_set3_alloc {w0 w : World} {g : Nat} (h : Below w0.heap.size w0 w) (hg : w0.heap.size ≤ g) (x y z : Value) (o : Obj) : Below w0.heap.size w0 ((set3 w g x y z).alloc o) :=
  (below_store3 h hg x y z).alloc (by rw [size_set3]; exact h.size) o
theorem whp_zero (w : World) : Whp w false (.slice none 0 0) 0 := ⟨rfl, Rd.nil _ _, ⟨_, _, _, rfl, by omega⟩⟩
set_option maxRecDepth 100000 in
set_option maxHeartbeats 1600000 in
theorem FReduce_any (b : Bool) (s d : Value) (z : Int) (n : Nat) (w : World) (hz : Small z.natAbs) (hn : Small n) (h0 : 0 < n) (h : Whp w b s z) (h2 : Nt w d n) :
    Calls Try.prog 74 #[.agg #[.bool b, s, d]] w (FrPost (mkRat z n) w) := by
  obtain ⟨ps, ms, cs, rfl⟩ := h.form
  obtain ⟨pd, nd, cd, rfl⟩ := h2.form
  have A := Lib.hid h
  have D := Lib.hid h2
  have HZ := Lib.hid hz
  have HN := Lib.hid (And.intro hn h0)
  have RR := Lib.hid (red_rat h0 h.1)
  clear h h2 hz hn h0
  go_enter Try.func74, Try.ntmps74
  obtain ⟨w0, hw0⟩ : ∃ w0, w0 = (w.alloc (.cells #[.bool b, .slice ps ms cs, .slice pd nd cd] 105)).alloc (.cells #[.bool false, .slice none 0 0, .slice none 0 0] 105) := ⟨_, rfl⟩
  have X0 := Lib.hid (show BxAt w0 w.heap.size [.bool b, .slice ps ms cs, .slice pd nd cd] by rw [hw0]; exact bx_a w _ _ _)
  have Y0 := Lib.hid (show BxAt w0 (w.heap.size + 1) [.bool false, .slice none 0 0, .slice none 0 0] by rw [hw0]; exact bx_b w _ _ _)
  have B0 : Hid (Below w.heap.size w w0) := Lib.hid (by rw [hw0]; exact bel2 _ _ _)
  have e0 : (w.alloc (.cells #[.bool b, .slice ps ms cs, .slice pd nd cd] 105)).alloc (.cells #[.bool false, .slice none 0 0, .slice none 0 0] 105) = w0 := hw0.symm
  clear hw0
  have c2 := X0.out.2.2 2 _ rfl
  have A := Lib.hid (A.out.later B0.out)
  have D := Lib.hid (D.out.later B0.out)
  go_wp2_with fail
  clear e0
  refine (Bits_any _ n w0 HN.out.1 D.out).mono ?_
  rintro e w1 ⟨r, rfl, hr, hb1⟩
  have hr1 : (r == 0) = false := by
    have h0 := HN.out.2
    simp; intro e; have := hr.1 e; omega
  have X1 := Lib.hid (X0.out.later hb1)
  have Y1 := Lib.hid (Y0.out.later hb1)
  have A := Lib.hid (A.out.later hb1)
  have D := Lib.hid (D.out.later hb1)
  have B1 := Lib.hid (bthen B0.out hb1)
  clear hr hb1 c2
  have c1 := X1.out.2.2 1 _ rfl
  go_wp2_with fail
  refine (Bits_any _ z.natAbs w1 HZ.out A.out.2).mono ?_
  rintro e w2 ⟨r2, rfl, hr2, hb2⟩
  have X2 := Lib.hid (X1.out.later hb2)
  have Y2 := Lib.hid (Y1.out.later hb2)
  have A := Lib.hid (A.out.later hb2)
  have D := Lib.hid (D.out.later hb2)
  have B2 := Lib.hid (bthen B1.out hb2)
  clear hb2 c1 hr1
  by_cases hz0 : z = 0
  · have hr3 : (r2 == 0) = true := by simp; exact hr2.2 (by omega)
    clear hr2
    have r0 := Y2.out.2.2 0 _ rfl
    have r1 := Y2.out.2.2 1 _ rfl
    have r2' := Y2.out.2.2 2 _ rfl
    have rf := Y2.out.2.1
    have zr := Y2.out.1
    go_wp2_with fail
    have hm : mkRat z n = 0 := by rw [hz0]; simp
    refine bodyPost_ret (v := .agg #[.bool false, .slice none 0 0, .slice (some ⟨w2.heap.size, 0, none⟩) 1 1]) ?_ rfl ⟨⟨_, _, _, rfl, ?_⟩, below_set3_alloc B2.out (by omega) _ _ _ _⟩
    · simp [results, Try.results74, go_sem, r0, r1, r2', zr]
    · rw [hm]
      exact ⟨whp_zero _, nt_new1' (size_set3 w2 _ _ _ _).symm⟩
  · have hr3 : (r2 == 0) = false := by
      simp; intro e; have := hr2.1 e; omega
    have HZ0 : Hid (0 < z.natAbs) := Lib.hid (by omega)
    clear hr2 hz0
    have c1 := X2.out.2.2 1 _ rfl
    have c2 := X2.out.2.2 2 _ rfl
    go_wp2_with fail
    refine (Red_any _ _ z.natAbs n w2 HZ.out HN.out.1 HZ0.out HN.out.2 A.out.2 D.out).mono ?_
    rintro e w3 ⟨⟨v3, u3, rfl, hv3, hu3⟩, hb3⟩
    rw [RR.out.2] at hu3
    obtain ⟨pu, nu, cu, rfl⟩ := hu3.form
    have V3 := Lib.hid hv3
    have U3 := Lib.hid hu3
    have X3 := Lib.hid (X2.out.later hb3)
    have Y3 := Lib.hid (Y2.out.later hb3)
    have B3 := Lib.hid (bthen B2.out hb3)
    clear hb3 hv3 hu3 c1 c2 hr3
    have c0 := X3.out.2.2 0 _ rfl
    go_wp2_with fail
    refine (Make_any b _ _ w3 (HZ.out.le (Nat.div_le_self _ _)) V3.out).mono ?_
    rintro e w4 ⟨⟨b4, s4, rfl, h4⟩, hb4⟩
    rw [RR.out.1] at h4
    obtain ⟨p4, n4, c4, rfl⟩ := h4.form
    have R4 := Lib.hid h4
    have U4 := Lib.hid (U3.out.later hb4)
    have Y4 := Lib.hid (Y3.out.later hb4)
    have B4 := Lib.hid (bthen B3.out hb4)
    clear hb4 h4 c0
    have r0 := Y4.out.2.2 0 _ rfl
    have r1 := Y4.out.2.2 1 _ rfl
    have r2' := Y4.out.2.2 2 _ rfl
    have rf := Y4.out.2.1
    go_wp2_with fail
    refine bodyPost_ret (v := .agg #[.bool b4, .slice p4 n4 c4, .slice pu nu cu]) ?_ rfl ⟨⟨_, _, _, rfl, Frp.store3 _ _ _ ⟨R4.out, U4.out⟩ Y4.out⟩, below_store3 B4.out (by omega) _ _ _⟩
    simp [results, Try.results74, go_sem, r0, r1, r2']
set_option maxRecDepth 100000 in
set_option maxHeartbeats 1600000 in
theorem FInt_any (n : Int) (w : World) (h0 : -I63 ≤ n) (h1 : n < I63) : Calls Try.prog 51 #[.int .i64 n] w (FrPost (n : Rat) w) := by
  have H := Lib.hid (And.intro h0 h1)
  clear h0 h1
  go_enter Try.func51, Try.ntmps51
  obtain ⟨w0, hw0⟩ : ∃ w0, w0 = w.alloc (.cells #[.bool false, .slice none 0 0, .slice none 0 0] 105) := ⟨_, rfl⟩
  have Y0 := Lib.hid (show BxAt w0 w.heap.size [.bool false, .slice none 0 0, .slice none 0 0] by rw [hw0]; exact BxAt.new w _ _)
  have B0 : Hid (Below w.heap.size w w0) := Lib.hid (by rw [hw0]; exact below_alloc _ _)
  have e0 : w.alloc (.cells #[.bool false, .slice none 0 0, .slice none 0 0] 105) = w0 := hw0.symm
  clear hw0
  go_wp2_with fail
  clear e0
  refine (WOf_any n w0 H.out.1 H.out.2).mono ?_
  rintro e w1 ⟨⟨b1, s1, rfl, h1⟩, hb1⟩
  obtain ⟨p1, n1, c1, rfl⟩ := h1.form
  have R1 := Lib.hid h1
  have Y1 := Lib.hid (Y0.out.later hb1)
  have B1 := Lib.hid (bthen B0.out hb1)
  clear h1 hb1
  have r0 := Y1.out.2.2 0 _ rfl
  have r1 := Y1.out.2.2 1 _ rfl
  have r2' := Y1.out.2.2 2 _ rfl
  have rf := Y1.out.2.1
  have zr := Y1.out.1
  go_wp2_with fail
  refine bodyPost_ret (v := .agg #[.bool b1, .slice p1 n1 c1, .slice (some ⟨w1.heap.size, 0, none⟩) 1 1]) ?_ rfl ⟨⟨_, _, _, rfl, ?_⟩, below_set3_alloc B1.out (by omega) _ _ _ _⟩
  · simp [results, Try.results51, go_sem, r0, r1, r2', zr]
  · exact ⟨(R1.out.store3 _ _ _ Y1.out).later (below_alloc _ _), nt_new1' (size_set3 w1 _ _ _ _).symm⟩
theorem half_num : (mkRat 1 2).num = 1 ∧ (mkRat 1 2).den = 2 := by decide
theorem nt_new2 {w : World} {g : Nat} (h : g = w.heap.size) : Nt (w.alloc (.cells #[.int .u32 2] 123)) (.slice (some ⟨g, 0, none⟩) 1 1) 2 := by
  subst h
  have h0 : Rd .u32 (w.alloc (.cells #[.int .u32 2] 123)) (.slice (some ⟨w.heap.size, 0, none⟩) 1 1) [2] := ⟨_, _, rfl, by simp, fun _ => ⟨_, _, rfl, fun j hj => by
    have : j = 0 := by simp at hj; omega
    subst this
    rw [World.cell?_alloc_new]; rfl⟩⟩
  exact ⟨by rw [show dg 4294967296 2 = [2] by decide]; exact h0, ⟨_, _, _, rfl, by omega⟩⟩
set_option maxRecDepth 100000 in
set_option maxHeartbeats 1600000 in
theorem FHalf_any (w : World) : Calls Try.prog 69 #[] w (FrPost (mkRat 1 2) w) := by
  go_enter Try.func69, Try.ntmps69
  obtain ⟨w0, hw0⟩ : ∃ w0, w0 = w.alloc (.cells #[.bool false, .slice none 0 0, .slice none 0 0] 105) := ⟨_, rfl⟩
  have Y0 := Lib.hid (show BxAt w0 w.heap.size [.bool false, .slice none 0 0, .slice none 0 0] by rw [hw0]; exact BxAt.new w _ _)
  have B0 : Hid (Below w.heap.size w w0) := Lib.hid (by rw [hw0]; exact below_alloc _ _)
  have e0 : w.alloc (.cells #[.bool false, .slice none 0 0, .slice none 0 0] 105) = w0 := hw0.symm
  clear hw0
  go_wp2_with fail
  clear e0
  refine (WOf_any 1 w0 (by unfold I63; omega) (by unfold I63; omega)).mono ?_
  rintro e w1 ⟨⟨b1, s1, rfl, h1⟩, hb1⟩
  obtain ⟨p1, n1, c1, rfl⟩ := h1.form
  have R1 := Lib.hid h1
  have Y1 := Lib.hid (Y0.out.later hb1)
  have B1 := Lib.hid (bthen B0.out hb1)
  clear h1 hb1
  have r0 := Y1.out.2.2 0 _ rfl
  have r1 := Y1.out.2.2 1 _ rfl
  have r2' := Y1.out.2.2 2 _ rfl
  have rf := Y1.out.2.1
  have zr := Y1.out.1
  go_wp2_with fail
  refine bodyPost_ret (v := .agg #[.bool b1, .slice p1 n1 c1, .slice (some ⟨w1.heap.size, 0, none⟩) 1 1]) ?_ rfl ⟨⟨_, _, _, rfl, ?_⟩, below_set3_alloc B1.out (by omega) _ _ _ _⟩
  · simp [results, Try.results69, go_sem, r0, r1, r2', zr]
  · exact ⟨by rw [half_num.1]; exact (R1.out.store3 _ _ _ Y1.out).later (below_alloc _ _), by rw [half_num.2]; exact nt_new2 (size_set3 w1 _ _ _ _).symm⟩
end Go.Proofs.Ythglgempbdaikaa
namespace Go.Proofs.Ythglgempbdaikaa
open Go.RowKit

def Q62 : Nat := 4611686018427387904
theorem Small.q {a : Nat} (h : a ≤ Q62) : Small a := Small.of (by unfold Q62 at h; omega)
theorem whp_nat {w : World} {d : Value} {n : Nat} (h : Nt w d n) : Whp w false d (n : Int) := ⟨by simp, by simpa using h⟩
theorem isSl (p : Option Addr) (n c : Nat) : ∃ p' n' c', Value.slice p n c = .slice p' n' c' := ⟨p, n, c, rfl⟩
theorem set_same {w : World} {a p : Addr} {u x : Value} (h : w.cell? a = some u) (h2 : w.cell? p = some x) : (w.setCell p x).cell? a = some u := by
  by_cases e : p = a
  · subst e
    rw [World.cell?_setCell_same _ _ _ h2, ← h, h2]
  · rw [World.cell?_setCell_other _ _ _ _ e]; exact h
theorem set3_same {w : World} {a : Addr} {u x y z : Value} {g : Nat} (h : w.cell? a = some u) (h0 : w.cell? ⟨g, 0, none⟩ = some x) (h1 : w.cell? ⟨g, 1, none⟩ = some y) (h2 : w.cell? ⟨g, 2, none⟩ = some z) :
    (((w.setCell ⟨g, 0, none⟩ x).setCell ⟨g, 1, none⟩ y).setCell ⟨g, 2, none⟩ z).cell? a = some u :=
  set_same (set_same (set_same h h0) (set_same h1 h0)) (set_same (set_same h2 h0) (set_same h1 h0))
theorem cell3_far {w : World} {a i g : Nat} {u x y z : Value} (h : w.cell? ⟨a, i, none⟩ = some u) (hne : g ≠ a) : (((w.setCell ⟨g, 0, none⟩ x).setCell ⟨g, 1, none⟩ y).setCell ⟨g, 2, none⟩ z).cell? ⟨a, i, none⟩ = some u := by
  rw [World.cell?_setCell_other]
  · exact cell2_far h hne
  · intro e; simp only [Addr.mk.injEq] at e; omega
/-- the boxes of two fractions, and the result's -/
def FSt (W : World) (A : Nat) (b : Bool) (s d : Value) (c : Bool) (t f : Value) (p q : Rat) : Prop :=
  BxAt W A [.bool b, s, d] ∧ BxAt W (A + 1) [.bool c, t, f] ∧ BxAt W (A + 1 + 1) [.bool false, .slice none 0 0, .slice none 0 0] ∧ Frp W b s d p ∧ Frp W c t f q
theorem FSt.later {W W1 : World} {A : Nat} {b : Bool} {s d : Value} {c : Bool} {t f : Value} {p q : Rat} (h : FSt W A b s d c t f p q) (hb : Below W.heap.size W W1) : FSt W1 A b s d c t f p q :=
  ⟨h.1.later hb, h.2.1.later hb, h.2.2.1.later hb, h.2.2.2.1.later hb, h.2.2.2.2.later hb⟩
theorem FSt.new (w : World) (b : Bool) (s d : Value) (c : Bool) (t f : Value) (p q : Rat) (h : Frp w b s d p) (h2 : Frp w c t f q) : ∃ w0, (((w.alloc (.cells #[.bool b, s, d] 105)).alloc (.cells #[.bool c, t, f] 105)).alloc (.cells #[.bool false, .slice none 0 0, .slice none 0 0] 105)) = w0 ∧ FSt w0 w.heap.size b s d c t f p q ∧ Below w.heap.size w w0 :=
  ⟨_, rfl, ⟨bx3_a w _ _ _ _, bx3_b w _ _ _ _, bx3_c w _ _ _ _, h.later (bel3 _ _ _ _), h2.later (bel3 _ _ _ _)⟩, bel3 _ _ _ _⟩
/-- the first one, then both are stored again as they were -/
theorem FSt.once {W : World} {A : Nat} {b : Bool} {p1 p2 p3 p4 : Option Addr} {n1 n2 n3 n4 c1 c2 c3 c4 : Nat} {c : Bool} {p q : Rat} (h : FSt W A b (.slice p1 n1 c1) (.slice p2 n2 c2) c (.slice p3 n3 c3) (.slice p4 n4 c4) p q) :
    FSt (set3 W A (.bool b) (.slice p1 n1 c1) (.slice p2 n2 c2)) A b (.slice p1 n1 c1) (.slice p2 n2 c2) c (.slice p3 n3 c3) (.slice p4 n4 c4) p q := by
  obtain ⟨h1, h2, h3, h4, h5⟩ := h
  exact ⟨h1.put3 _ _ _, h2.far3 _ _ _ (by omega), h3.far3 _ _ _ (by omega), h4.store3 _ _ _ h1, h5.store3 _ _ _ h1⟩
theorem FSt.again {W : World} {A : Nat} {b : Bool} {p1 p2 p3 p4 : Option Addr} {n1 n2 n3 n4 c1 c2 c3 c4 : Nat} {c : Bool} {p q : Rat} (h : FSt W A b (.slice p1 n1 c1) (.slice p2 n2 c2) c (.slice p3 n3 c3) (.slice p4 n4 c4) p q) :
    FSt (set3 (set3 W A (.bool b) (.slice p1 n1 c1) (.slice p2 n2 c2)) (A + 1) (.bool c) (.slice p3 n3 c3) (.slice p4 n4 c4)) A b (.slice p1 n1 c1) (.slice p2 n2 c2) c (.slice p3 n3 c3) (.slice p4 n4 c4) p q := by
  obtain ⟨h1, h2, h3, h4, h5⟩ := h.once
  exact ⟨h1.far3 _ _ _ (by omega), h2.put3 _ _ _, h3.far3 _ _ _ (by omega), h4.store3 _ _ _ h2, h5.store3 _ _ _ h2⟩
theorem FSt.cells {W : World} {A : Nat} {b : Bool} {s d : Value} {c : Bool} {t f : Value} {p q : Rat} (h : FSt W A b s d c t f p q) :
    W.cell? ⟨A, 0, none⟩ = some (.bool b) ∧ W.cell? ⟨A, 1, none⟩ = some s ∧ W.cell? ⟨A, 2, none⟩ = some d ∧ W.cell? ⟨A + 1, 0, none⟩ = some (.bool c) ∧ W.cell? ⟨A + 1, 1, none⟩ = some t ∧ W.cell? ⟨A + 1, 2, none⟩ = some f :=
  ⟨h.1.2.2 0 _ rfl, h.1.2.2 1 _ rfl, h.1.2.2 2 _ rfl, h.2.1.2.2 0 _ rfl, h.2.1.2.2 1 _ rfl, h.2.1.2.2 2 _ rfl⟩
theorem FSt.far {W : World} {A : Nat} {b : Bool} {s d : Value} {c : Bool} {t f : Value} {p q : Rat} (h : FSt W A b s d c t f p q) (x y z : Value) :
    (set3 W (A + 1 + 1) x y z).cell? ⟨A, 0, none⟩ = some (.bool b) ∧ (set3 W (A + 1 + 1) x y z).cell? ⟨A, 1, none⟩ = some s ∧ (set3 W (A + 1 + 1) x y z).cell? ⟨A, 2, none⟩ = some d ∧ (set3 W (A + 1 + 1) x y z).cell? ⟨A + 1, 0, none⟩ = some (.bool c) ∧ (set3 W (A + 1 + 1) x y z).cell? ⟨A + 1, 1, none⟩ = some t ∧ (set3 W (A + 1 + 1) x y z).cell? ⟨A + 1, 2, none⟩ = some f := by
  have h1 := h.1.far3 (g' := A + 1 + 1) x y z (by omega)
  have h2 := h.2.1.far3 (g' := A + 1 + 1) x y z (by omega)
  exact ⟨h1.2.2 0 _ rfl, h1.2.2 1 _ rfl, h1.2.2 2 _ rfl, h2.2.2 0 _ rfl, h2.2.2 1 _ rfl, h2.2.2 2 _ rfl⟩
theorem Frp.forms {w : World} {b : Bool} {s d : Value} {q : Rat} (h : Frp w b s d q) : (∃ p n c, s = .slice p n c) ∧ ∃ p n c, d = .slice p n c := ⟨h.1.form, h.2.form⟩
def AddOk (a b : Rat) : Prop := a.num.natAbs * b.den + b.num.natAbs * a.den ≤ Q62 ∧ a.den * b.den ≤ Q62
theorem AddOk.all {a b : Rat} (h : AddOk a b) : (Small a.num.natAbs ∧ Small b.num.natAbs ∧ Small a.den ∧ Small b.den) ∧ (Small ((a.den : Int)).natAbs ∧ Small ((b.den : Int)).natAbs) ∧ Small (a.num * (b.den : Int)).natAbs ∧ Small (b.num * (a.den : Int)).natAbs ∧ Small (a.num * (b.den : Int) + b.num * (a.den : Int)).natAbs ∧ Small (a.den * b.den) := by
  obtain ⟨h1, h2⟩ := h
  have pa := a.den_pos
  have pb := b.den_pos
  have e1 := Nat.le_mul_of_pos_right a.num.natAbs pb
  have e2 := Nat.le_mul_of_pos_right b.num.natAbs pa
  have e3 := Nat.le_mul_of_pos_right a.den pb
  have e4 := Nat.le_mul_of_pos_left b.den pa
  have m1 : (a.num * (b.den : Int)).natAbs = a.num.natAbs * b.den := by rw [Int.natAbs_mul, Int.natAbs_natCast]
  have m2 : (b.num * (a.den : Int)).natAbs = b.num.natAbs * a.den := by rw [Int.natAbs_mul, Int.natAbs_natCast]
  have m3 := Int.natAbs_add_le (a.num * (b.den : Int)) (b.num * (a.den : Int))
  refine ⟨⟨Small.q (by omega), Small.q (by omega), Small.q (by omega), Small.q (by omega)⟩, ⟨Small.q (by simp; omega), Small.q (by simp; omega)⟩, Small.q (by omega), Small.q (by omega), Small.q (by omega), Small.q h2⟩
set_option maxRecDepth 100000 in
set_option maxHeartbeats 6400000 in
theorem FAdd_any (b : Bool) (s d : Value) (c : Bool) (t f : Value) (p q : Rat) (w : World) (hok : AddOk p q) (h : Frp w b s d p) (h2 : Frp w c t f q) :
    Calls Try.prog 68 #[.agg #[.bool b, s, d], .agg #[.bool c, t, f]] w (FrPost (p + q) w) := by
  obtain ⟨⟨p1, n1, c1, rfl⟩, p2, n2, c2, rfl⟩ := h.forms
  obtain ⟨⟨p3, n3, c3, rfl⟩, p4, n4, c4, rfl⟩ := h2.forms
  have SM := Lib.hid hok.all
  have DP := Lib.hid (And.intro p.den_pos q.den_pos)
  have SUM := Lib.hid (Rat.add_def' p q).symm
  obtain ⟨w0, hw0, f0, b0⟩ := FSt.new w b _ _ c _ _ p q h h2
  have F0 := Lib.hid f0
  have B0 := Lib.hid b0
  clear h h2 hok f0 b0
  go_enter Try.func68, Try.ntmps68
  go_wp2_with fail
  clear hw0
  go_cut [5] (fun _ wx => FSt wx w.heap.size b (.slice p1 n1 c1) (.slice p2 n2 c2) c (.slice p3 n3 c3) (.slice p4 n4 c4) p q ∧ Below w.heap.size w wx)
  case first =>
    have F2 := F0.out
    have k : Below w0.heap.size w0 w0 := Below.refl _ _
    have D1 : Hid (Nt w0 (.slice p2 n2 c2) p.den) := Lib.hid F0.out.2.2.2.1.2
    have D2 : Hid (Nt w0 (.slice p4 n4 c4) q.den) := Lib.hid F0.out.2.2.2.2.2
    go_region_held3 (fun w' => w'.cell? ⟨w.heap.size, 0, none⟩ = some (.bool b) ∧ w'.cell? ⟨w.heap.size, 1, none⟩ = some (.slice p1 n1 c1) ∧ w'.cell? ⟨w.heap.size, 2, none⟩ = some (.slice p2 n2 c2) ∧ w'.cell? ⟨w.heap.size + 1, 0, none⟩ = some (.bool c) ∧ w'.cell? ⟨w.heap.size + 1, 1, none⟩ = some (.slice p3 n3 c3) ∧ w'.cell? ⟨w.heap.size + 1, 2, none⟩ = some (.slice p4 n4 c4))
      (first | with_reducible exact F2.cells | with_reducible exact F2.once.cells | with_reducible exact F2.again.cells | exact F2.cells)
      (first
        | (go_at_call 60; (with_reducible refine (worth_any b _ _ p.den _ SM.out.1.2.2.1 DP.out.1 (isSl _ _ _) D1.out.drew).mono ?_); rintro e v1 ⟨rfl, hb⟩; have k : Below w0.heap.size w0 v1 := bel_drew hb; have F2 := F0.out.later k)
        | (go_at_call 60; (with_reducible refine (worth_any c _ _ q.den _ SM.out.1.2.2.2 DP.out.2 (isSl _ _ _) (D2.out.later k)).mono ?_); rintro e v2 ⟨rfl, hb⟩; have k := bthen k hb; have F2 := F0.out.later k; have g0 := F2.1.2.2 0 _ rfl; have g1 := F2.1.2.2 1 _ rfl; have g2 := F2.1.2.2 2 _ rfl; have gf := F2.1.2.1; have j0 := F2.2.1.2.2 0 _ rfl; have j1 := F2.2.1.2.2 1 _ rfl; have j2 := F2.2.1.2.2 2 _ rfl; have jf := F2.2.1.2.1))
    all_goals go_wp2_with fail
    all_goals go_meet
    exact ⟨F2.again, below_store3 (below_store3 (bthen B0.out k) (Nat.le_refl _) _ _ _) (by omega) _ _ _⟩
  case rest =>
    obtain ⟨f1, b1⟩ := hcut
    have F1 := Lib.hid f1
    have B1 := Lib.hid b1
    have N1 : Hid (Whp wc b (.slice p1 n1 c1) p.num) := Lib.hid f1.2.2.2.1.1
    have N2 : Hid (Whp wc c (.slice p3 n3 c3) q.num) := Lib.hid f1.2.2.2.2.1
    have D1 : Hid (Nt wc (.slice p2 n2 c2) p.den) := Lib.hid f1.2.2.2.1.2
    have D2 : Hid (Nt wc (.slice p4 n4 c4) q.den) := Lib.hid f1.2.2.2.2.2
    have F2 := f1
    have k : Below wc.heap.size wc wc := Below.refl _ _
    have DPP : Hid (0 < p.den * q.den) := Lib.hid (Nat.mul_pos DP.out.1 DP.out.2)
    clear f1 b1 F0 B0
    go_wp2_with fail
    go_region_held3 (fun w' => w'.cell? ⟨w.heap.size, 0, none⟩ = some (.bool b) ∧ w'.cell? ⟨w.heap.size, 1, none⟩ = some (.slice p1 n1 c1) ∧ w'.cell? ⟨w.heap.size, 2, none⟩ = some (.slice p2 n2 c2) ∧ w'.cell? ⟨w.heap.size + 1, 0, none⟩ = some (.bool c) ∧ w'.cell? ⟨w.heap.size + 1, 1, none⟩ = some (.slice p3 n3 c3) ∧ w'.cell? ⟨w.heap.size + 1, 2, none⟩ = some (.slice p4 n4 c4))
      (first | with_reducible exact F2.cells | with_reducible exact F2.far _ _ _ | exact F2.cells)
      (first
        | (go_at_call 63; (with_reducible refine (up_any c (.slice p3 n3 c3) (.slice p4 n4 c4) q.den _ D2.out.drew).mono ?_); rintro e v1 ⟨rfl, hb⟩; have k : Below wc.heap.size wc v1 := bel_drew hb; have F2 := F1.out.later k)
        | (go_at_call 62; (with_reducible refine (WMul_any b false _ _ p.num (q.den : Int) _ SM.out.1.1 SM.out.2.1.2 SM.out.2.2.1 (N1.out.later k) (whp_nat (D2.out.later k))).mono ?_); rintro e v2 ⟨⟨bp, sp, rfl, P1⟩, hb⟩; have k := bthen k hb; have F2 := F1.out.later k)
        | (go_at_call 63; (with_reducible refine (up_any b (.slice p1 n1 c1) (.slice p2 n2 c2) p.den _ (D1.out.later k)).mono ?_); rintro e v3 ⟨rfl, hb⟩; have P1 := P1.later hb; have k := bthen k hb; have F2 := F1.out.later k)
        | (go_at_call 62; (with_reducible refine (WMul_any c false _ _ q.num (p.den : Int) _ SM.out.1.2.1 SM.out.2.1.1 SM.out.2.2.2.1 (N2.out.later k) (whp_nat (D1.out.later k))).mono ?_); rintro e v4 ⟨⟨bq, sq, rfl, P2⟩, hb⟩; have P1 := P1.later hb; have k := bthen k hb; have F2 := F1.out.later k)
        | (go_at_call 83; (with_reducible refine (WAdd_any bp bq sp sq (p.num * (q.den : Int)) (q.num * (p.den : Int)) _ SM.out.2.2.1 SM.out.2.2.2.1 SM.out.2.2.2.2.1 P1 P2).mono ?_); rintro e v5 ⟨⟨br, sr, rfl, P3⟩, hb⟩; obtain ⟨pr, nr, cr, rfl⟩ := P3.form; have k := bthen k hb; have F2 := F1.out.later k)
        | (go_at_call 76; (with_reducible refine (Mul_any _ _ p.den q.den _ SM.out.1.2.2.1 SM.out.1.2.2.2 (D1.out.later k) (D2.out.later k)).mono ?_); rintro e v6 ⟨⟨dm, rfl, P4⟩, hb⟩; obtain ⟨pm, nm, cm, rfl⟩ := P4.form; have P3 := P3.later hb; have k := bthen k hb; have F2 := F1.out.later k)
        | (go_at_call 74; (with_reducible refine (FReduce_any br _ _ (p.num * (q.den : Int) + q.num * (p.den : Int)) (p.den * q.den) _ SM.out.2.2.2.2.1 SM.out.2.2.2.2.2 DPP.out P3 P4).mono ?_); rintro e v7 ⟨⟨bz, sz, dz, rfl, P5⟩, hb⟩; obtain ⟨⟨pz, nz, cz, rfl⟩, py, ny, cy, rfl⟩ := P5.forms; have k := bthen k hb; have F2 := F1.out.later k; have R7 := F2.2.2.1; have r0 := R7.2.2 0 _ rfl; have r1 := R7.2.2 1 _ rfl; have r2 := R7.2.2 2 _ rfl; have rf := R7.2.1))
    all_goals go_wp2_with fail
    rw [SUM.out] at P5
    refine bodyPost_ret (v := .agg #[.bool bz, .slice pz nz cz, .slice py ny cy]) ?_ rfl ⟨⟨_, _, _, rfl, P5.store3 _ _ _ R7⟩, below_store3 (bthen B1.out k) (by omega) _ _ _⟩
    clear F2 k R7 P5
    simp [results, Try.results68, go_sem, r0, r1, r2]
end Go.Proofs.Ythglgempbdaikaa
namespace Go.Proofs.Ythglgempbdaikaa
open Go.RowKit

def GSt (W : World) (A : Nat) (b : Bool) (s d : Value) (q : Rat) : Prop :=
  BxAt W A [.bool b, s, d] ∧ BxAt W (A + 1) [.bool false, .slice none 0 0, .slice none 0 0] ∧ Frp W b s d q
theorem GSt.later {W W1 : World} {A : Nat} {b : Bool} {s d : Value} {q : Rat} (h : GSt W A b s d q) (hb : Below W.heap.size W W1) : GSt W1 A b s d q := ⟨h.1.later hb, h.2.1.later hb, h.2.2.later hb⟩
theorem GSt.once {W : World} {A : Nat} {b : Bool} {p1 p2 : Option Addr} {n1 n2 c1 c2 : Nat} {q : Rat} (h : GSt W A b (.slice p1 n1 c1) (.slice p2 n2 c2) q) : GSt (set3 W A (.bool b) (.slice p1 n1 c1) (.slice p2 n2 c2)) A b (.slice p1 n1 c1) (.slice p2 n2 c2) q :=
  ⟨h.1.put3 _ _ _, h.2.1.far3 _ _ _ (by omega), h.2.2.store3 _ _ _ h.1⟩
theorem GSt.cells {W : World} {A : Nat} {b : Bool} {s d : Value} {q : Rat} (h : GSt W A b s d q) : W.cell? ⟨A, 0, none⟩ = some (.bool b) ∧ W.cell? ⟨A, 1, none⟩ = some s ∧ W.cell? ⟨A, 2, none⟩ = some d :=
  ⟨h.1.2.2 0 _ rfl, h.1.2.2 1 _ rfl, h.1.2.2 2 _ rfl⟩
theorem GSt.far {W : World} {A : Nat} {b : Bool} {s d : Value} {q : Rat} (h : GSt W A b s d q) (x y z : Value) : (set3 W (A + 1) x y z).cell? ⟨A, 0, none⟩ = some (.bool b) ∧ (set3 W (A + 1) x y z).cell? ⟨A, 1, none⟩ = some s ∧ (set3 W (A + 1) x y z).cell? ⟨A, 2, none⟩ = some d := by
  have h1 := h.1.far3 (g' := A + 1) x y z (by omega)
  exact ⟨h1.2.2 0 _ rfl, h1.2.2 1 _ rfl, h1.2.2 2 _ rfl⟩
theorem neg_rat (q : Rat) : mkRat (-q.num) q.den = -q := by rw [← Rat.neg_mkRat, Rat.mkRat_self]
set_option maxRecDepth 100000 in
set_option maxHeartbeats 6400000 in
theorem FNeg_any (b : Bool) (s d : Value) (q : Rat) (w : World) (hn : Small q.num.natAbs) (hd : Small q.den) (h : Frp w b s d q) :
    Calls Try.prog 89 #[.agg #[.bool b, s, d]] w (FrPost (-q) w) := by
  obtain ⟨⟨p1, n1, c1, rfl⟩, p2, n2, c2, rfl⟩ := h.forms
  have SN := Lib.hid hn
  have SNN : Hid (Small (-q.num).natAbs) := Lib.hid (by rw [Int.natAbs_neg]; exact hn)
  have SD := Lib.hid hd
  have NR := Lib.hid (neg_rat q)
  have DP := Lib.hid q.den_pos
  obtain ⟨w0, hw0⟩ : ∃ w0, (w.alloc (.cells #[.bool b, .slice p1 n1 c1, .slice p2 n2 c2] 105)).alloc (.cells #[.bool false, .slice none 0 0, .slice none 0 0] 105) = w0 := ⟨_, rfl⟩
  have G0 : Hid (GSt w0 w.heap.size b (.slice p1 n1 c1) (.slice p2 n2 c2) q) := Lib.hid (by rw [← hw0]; exact ⟨bx_a w _ _ _, bx_b w _ _ _, h.later (bel2 _ _ _)⟩)
  have B0 : Hid (Below w.heap.size w w0) := Lib.hid (by rw [← hw0]; exact bel2 _ _ _)
  clear h hn hd
  have a0 := G0.out.1.2.2 0 _ rfl
  have a1 := G0.out.1.2.2 1 _ rfl
  have a2 := G0.out.1.2.2 2 _ rfl
  go_enter Try.func89, Try.ntmps89
  go_wp2_with fail
  clear hw0 a0 a1 a2
  refine (worth_any b _ _ q.den _ SD.out DP.out (isSl _ _ _) G0.out.2.2.2).mono ?_
  rintro e w1 ⟨rfl, hb1⟩
  have G1 := Lib.hid (G0.out.later hb1)
  have B1 := Lib.hid (bthen B0.out hb1)
  clear hb1
  have a0 := G1.out.1.2.2 0 _ rfl
  have a1 := G1.out.1.2.2 1 _ rfl
  have a2 := G1.out.1.2.2 2 _ rfl
  have af := G1.out.1.2.1
  go_wp2_with fail
  obtain ⟨wc, hwc⟩ : ∃ wc, wc = ((w1.setCell ⟨w.heap.size, 0, none⟩ (.bool b)).setCell ⟨w.heap.size, 1, none⟩ (.slice p1 n1 c1)).setCell ⟨w.heap.size, 2, none⟩ (.slice p2 n2 c2) := ⟨_, rfl⟩
  rw [← hwc]
  have G2 : Hid (GSt wc w.heap.size b (.slice p1 n1 c1) (.slice p2 n2 c2) q) := Lib.hid (by rw [hwc]; exact G1.out.once)
  have B2 : Hid (Below w.heap.size w wc) := Lib.hid (by rw [hwc]; exact below_store3 B1.out (Nat.le_refl _) _ _ _)
  clear hwc a0 a1 a2 af G1 B1 G0 B0
  have N1 : Hid (Whp wc b (.slice p1 n1 c1) q.num) := Lib.hid G2.out.2.2.1
  have D1 : Hid (Nt wc (.slice p2 n2 c2) q.den) := Lib.hid G2.out.2.2.2
  have F2 := G2.out
  have k : Below wc.heap.size wc wc := Below.refl _ _
  go_region_held3 (fun w' => w'.cell? ⟨w.heap.size, 0, none⟩ = some (.bool b) ∧ w'.cell? ⟨w.heap.size, 1, none⟩ = some (.slice p1 n1 c1) ∧ w'.cell? ⟨w.heap.size, 2, none⟩ = some (.slice p2 n2 c2))
    (first | with_reducible exact F2.cells | with_reducible exact F2.far _ _ _ | exact F2.cells)
    (first
      | (go_at_call 96; (with_reducible refine (Neg_any b _ q.num _ SN.out N1.out.drew).mono ?_); rintro e v1 ⟨⟨bp, sp, rfl, P1⟩, hb⟩; obtain ⟨pr, nr, cr, rfl⟩ := P1.form; have k : Below wc.heap.size wc v1 := bel_drew hb; have F2 := G2.out.later k)
      | (go_at_call 74; (with_reducible refine (FReduce_any bp _ _ (-q.num) q.den _ SNN.out SD.out DP.out P1 (D1.out.later k)).mono ?_); rintro e v7 ⟨⟨bz, sz, dz, rfl, P5⟩, hb⟩; obtain ⟨⟨pz, nz, cz, rfl⟩, py, ny, cy, rfl⟩ := P5.forms; have k := bthen k hb; have F2 := G2.out.later k; have R7 := F2.2.1; have r0 := R7.2.2 0 _ rfl; have r1 := R7.2.2 1 _ rfl; have r2 := R7.2.2 2 _ rfl; have rf := R7.2.1))
  all_goals go_wp2_with fail
  rw [NR.out] at P5
  refine bodyPost_ret (v := .agg #[.bool bz, .slice pz nz cz, .slice py ny cy]) ?_ rfl ⟨⟨_, _, _, rfl, P5.store3 _ _ _ R7⟩, below_store3 (bthen B2.out k) (by omega) _ _ _⟩
  clear F2 k R7 P5
  simp [results, Try.results89, go_sem, r0, r1, r2]
theorem AddOk.neg {p q : Rat} (h : AddOk p q) : AddOk p (-q) := by
  unfold AddOk at *
  simpa using h
theorem sub_rat (p q : Rat) : p + -q = p - q := (Rat.sub_eq_add_neg p q).symm
set_option maxRecDepth 100000 in
set_option maxHeartbeats 6400000 in
theorem FSub_any (b : Bool) (s d : Value) (c : Bool) (t f : Value) (p q : Rat) (w : World) (hok : AddOk p q) (h : Frp w b s d p) (h2 : Frp w c t f q) :
    Calls Try.prog 80 #[.agg #[.bool b, s, d], .agg #[.bool c, t, f]] w (FrPost (p - q) w) := by
  obtain ⟨⟨p1, n1, c1, rfl⟩, p2, n2, c2, rfl⟩ := h.forms
  obtain ⟨⟨p3, n3, c3, rfl⟩, p4, n4, c4, rfl⟩ := h2.forms
  have SM := Lib.hid hok.all
  have OKN := Lib.hid hok.neg
  have SUM := Lib.hid (sub_rat p q)
  obtain ⟨w0, hw0, f0, b0⟩ := FSt.new w b _ _ c _ _ p q h h2
  have F0 := Lib.hid f0
  have B0 := Lib.hid b0
  clear h h2 hok f0 b0
  go_enter Try.func80, Try.ntmps80
  go_wp2_with fail
  clear hw0
  have Q1 : Hid (Frp w0 b (.slice p1 n1 c1) (.slice p2 n2 c2) p) := Lib.hid F0.out.2.2.2.1
  have Q2 : Hid (Frp w0 c (.slice p3 n3 c3) (.slice p4 n4 c4) q) := Lib.hid F0.out.2.2.2.2
  have F2 := F0.out
  have k : Below w0.heap.size w0 w0 := Below.refl _ _
  go_region_held3 (fun w' => w'.cell? ⟨w.heap.size, 0, none⟩ = some (.bool b) ∧ w'.cell? ⟨w.heap.size, 1, none⟩ = some (.slice p1 n1 c1) ∧ w'.cell? ⟨w.heap.size, 2, none⟩ = some (.slice p2 n2 c2) ∧ w'.cell? ⟨w.heap.size + 1, 0, none⟩ = some (.bool c) ∧ w'.cell? ⟨w.heap.size + 1, 1, none⟩ = some (.slice p3 n3 c3) ∧ w'.cell? ⟨w.heap.size + 1, 2, none⟩ = some (.slice p4 n4 c4))
    (first | with_reducible exact F2.cells | with_reducible exact F2.far _ _ _ | exact F2.cells)
    (first
      | (go_at_call 89; (with_reducible refine (FNeg_any c _ _ q _ SM.out.1.2.1 SM.out.1.2.2.2 Q2.out.drew).mono ?_); rintro e v1 ⟨⟨bp, sp, dp, rfl, P1⟩, hb⟩; have k : Below w0.heap.size w0 v1 := bel_drew hb; have F2 := F0.out.later k)
      | (go_at_call 68; (with_reducible refine (FAdd_any b _ _ bp sp dp p (-q) _ OKN.out (Q1.out.later k) P1).mono ?_); rintro e v7 ⟨⟨bz, sz, dz, rfl, P5⟩, hb⟩; obtain ⟨⟨pz, nz, cz, rfl⟩, py, ny, cy, rfl⟩ := P5.forms; have k := bthen k hb; have F2 := F0.out.later k; have R7 := F2.2.2.1; have r0 := R7.2.2 0 _ rfl; have r1 := R7.2.2 1 _ rfl; have r2 := R7.2.2 2 _ rfl; have rf := R7.2.1))
  all_goals go_wp2_with fail
  rw [SUM.out] at P5
  refine bodyPost_ret (v := .agg #[.bool bz, .slice pz nz cz, .slice py ny cy]) ?_ rfl ⟨⟨_, _, _, rfl, P5.store3 _ _ _ R7⟩, below_store3 (bthen B0.out k) (by omega) _ _ _⟩
  clear F2 k R7 P5
  simp [results, Try.results80, go_sem, r0, r1, r2]
def MulOk (a b : Rat) : Prop := a.num.natAbs ≤ Q62 ∧ b.num.natAbs ≤ Q62 ∧ a.num.natAbs * b.num.natAbs ≤ Q62 ∧ a.den * b.den ≤ Q62
theorem MulOk.all {a b : Rat} (h : MulOk a b) : (Small a.num.natAbs ∧ Small b.num.natAbs ∧ Small a.den ∧ Small b.den) ∧ Small (a.num * b.num).natAbs ∧ Small (a.den * b.den) := by
  obtain ⟨h1, h2, h3, h4⟩ := h
  have e3 := Nat.le_mul_of_pos_right a.den b.den_pos
  have e4 := Nat.le_mul_of_pos_left b.den a.den_pos
  exact ⟨⟨Small.q h1, Small.q h2, Small.q (by omega), Small.q (by omega)⟩, Small.q (by rw [Int.natAbs_mul]; exact h3), Small.q h4⟩
set_option maxRecDepth 100000 in
set_option maxHeartbeats 6400000 in
theorem FMul_any (b : Bool) (s d : Value) (c : Bool) (t f : Value) (p q : Rat) (w : World) (hok : MulOk p q) (h : Frp w b s d p) (h2 : Frp w c t f q) :
    Calls Try.prog 79 #[.agg #[.bool b, s, d], .agg #[.bool c, t, f]] w (FrPost (p * q) w) := by
  obtain ⟨⟨p1, n1, c1, rfl⟩, p2, n2, c2, rfl⟩ := h.forms
  obtain ⟨⟨p3, n3, c3, rfl⟩, p4, n4, c4, rfl⟩ := h2.forms
  have SM := Lib.hid hok.all
  have DP := Lib.hid (And.intro p.den_pos q.den_pos)
  have SUM := Lib.hid (Rat.mul_def' p q).symm
  have DPP : Hid (0 < p.den * q.den) := Lib.hid (Nat.mul_pos p.den_pos q.den_pos)
  obtain ⟨w0, hw0, f0, b0⟩ := FSt.new w b _ _ c _ _ p q h h2
  have F0 := Lib.hid f0
  have B0 := Lib.hid b0
  clear h h2 hok f0 b0
  go_enter Try.func79, Try.ntmps79
  go_wp2_with fail
  clear hw0
  go_cut [5] (fun _ wx => FSt wx w.heap.size b (.slice p1 n1 c1) (.slice p2 n2 c2) c (.slice p3 n3 c3) (.slice p4 n4 c4) p q ∧ Below w.heap.size w wx)
  case first =>
    have F2 := F0.out
    have k : Below w0.heap.size w0 w0 := Below.refl _ _
    have D1 : Hid (Nt w0 (.slice p2 n2 c2) p.den) := Lib.hid F0.out.2.2.2.1.2
    have D2 : Hid (Nt w0 (.slice p4 n4 c4) q.den) := Lib.hid F0.out.2.2.2.2.2
    go_region_held3 (fun w' => w'.cell? ⟨w.heap.size, 0, none⟩ = some (.bool b) ∧ w'.cell? ⟨w.heap.size, 1, none⟩ = some (.slice p1 n1 c1) ∧ w'.cell? ⟨w.heap.size, 2, none⟩ = some (.slice p2 n2 c2) ∧ w'.cell? ⟨w.heap.size + 1, 0, none⟩ = some (.bool c) ∧ w'.cell? ⟨w.heap.size + 1, 1, none⟩ = some (.slice p3 n3 c3) ∧ w'.cell? ⟨w.heap.size + 1, 2, none⟩ = some (.slice p4 n4 c4))
      (first | with_reducible exact F2.cells | with_reducible exact F2.once.cells | with_reducible exact F2.again.cells | exact F2.cells)
      (first
        | (go_at_call 60; (with_reducible refine (worth_any b _ _ p.den _ SM.out.1.2.2.1 DP.out.1 (isSl _ _ _) D1.out.drew).mono ?_); rintro e v1 ⟨rfl, hb⟩; have k : Below w0.heap.size w0 v1 := bel_drew hb; have F2 := F0.out.later k)
        | (go_at_call 60; (with_reducible refine (worth_any c _ _ q.den _ SM.out.1.2.2.2 DP.out.2 (isSl _ _ _) (D2.out.later k)).mono ?_); rintro e v2 ⟨rfl, hb⟩; have k := bthen k hb; have F2 := F0.out.later k; have g0 := F2.1.2.2 0 _ rfl; have g1 := F2.1.2.2 1 _ rfl; have g2 := F2.1.2.2 2 _ rfl; have gf := F2.1.2.1; have j0 := F2.2.1.2.2 0 _ rfl; have j1 := F2.2.1.2.2 1 _ rfl; have j2 := F2.2.1.2.2 2 _ rfl; have jf := F2.2.1.2.1))
    all_goals go_wp2_with fail
    all_goals go_meet
    exact ⟨F2.again, below_store3 (below_store3 (bthen B0.out k) (Nat.le_refl _) _ _ _) (by omega) _ _ _⟩
  case rest =>
    obtain ⟨f1, b1⟩ := hcut
    have F1 := Lib.hid f1
    have B1 := Lib.hid b1
    have N1 : Hid (Whp wc b (.slice p1 n1 c1) p.num) := Lib.hid f1.2.2.2.1.1
    have N2 : Hid (Whp wc c (.slice p3 n3 c3) q.num) := Lib.hid f1.2.2.2.2.1
    have D1 : Hid (Nt wc (.slice p2 n2 c2) p.den) := Lib.hid f1.2.2.2.1.2
    have D2 : Hid (Nt wc (.slice p4 n4 c4) q.den) := Lib.hid f1.2.2.2.2.2
    have F2 := f1
    have k : Below wc.heap.size wc wc := Below.refl _ _
    clear f1 b1 F0 B0
    go_wp2_with fail
    go_region_held3 (fun w' => w'.cell? ⟨w.heap.size, 0, none⟩ = some (.bool b) ∧ w'.cell? ⟨w.heap.size, 1, none⟩ = some (.slice p1 n1 c1) ∧ w'.cell? ⟨w.heap.size, 2, none⟩ = some (.slice p2 n2 c2) ∧ w'.cell? ⟨w.heap.size + 1, 0, none⟩ = some (.bool c) ∧ w'.cell? ⟨w.heap.size + 1, 1, none⟩ = some (.slice p3 n3 c3) ∧ w'.cell? ⟨w.heap.size + 1, 2, none⟩ = some (.slice p4 n4 c4))
      (first | with_reducible exact F2.cells | with_reducible exact F2.far _ _ _ | exact F2.cells)
      (first
        | (go_at_call 62; (with_reducible refine (WMul_any b c _ _ p.num q.num _ SM.out.1.1 SM.out.1.2.1 SM.out.2.1 N1.out.drew N2.out.drew).mono ?_); rintro e v2 ⟨⟨bp, sp, rfl, P1⟩, hb⟩; obtain ⟨pr, nr, cr, rfl⟩ := P1.form; have k : Below wc.heap.size wc v2 := bel_drew hb; have F2 := F1.out.later k)
        | (go_at_call 76; (with_reducible refine (Mul_any _ _ p.den q.den _ SM.out.1.2.2.1 SM.out.1.2.2.2 (D1.out.later k) (D2.out.later k)).mono ?_); rintro e v6 ⟨⟨dm, rfl, P4⟩, hb⟩; obtain ⟨pm, nm, cm, rfl⟩ := P4.form; have P1 := P1.later hb; have k := bthen k hb; have F2 := F1.out.later k)
        | (go_at_call 74; (with_reducible refine (FReduce_any bp _ _ (p.num * q.num) (p.den * q.den) _ SM.out.2.1 SM.out.2.2 DPP.out P1 P4).mono ?_); rintro e v7 ⟨⟨bz, sz, dz, rfl, P5⟩, hb⟩; obtain ⟨⟨pz, nz, cz, rfl⟩, py, ny, cy, rfl⟩ := P5.forms; have k := bthen k hb; have F2 := F1.out.later k; have R7 := F2.2.2.1; have r0 := R7.2.2 0 _ rfl; have r1 := R7.2.2 1 _ rfl; have r2 := R7.2.2 2 _ rfl; have rf := R7.2.1))
    all_goals go_wp2_with fail
    rw [SUM.out] at P5
    refine bodyPost_ret (v := .agg #[.bool bz, .slice pz nz cz, .slice py ny cy]) ?_ rfl ⟨⟨_, _, _, rfl, P5.store3 _ _ _ R7⟩, below_store3 (bthen B1.out k) (by omega) _ _ _⟩
    clear F2 k R7 P5
    simp [results, Try.results79, go_sem, r0, r1, r2]
end Go.Proofs.Ythglgempbdaikaa
namespace Go.Proofs.Ythglgempbdaikaa
open Go.RowKit

def FrMPost (q : Rat) (w : World) (e : Ending) (w' : World) : Prop := (∃ b s d, e = .returned (.tuple #[.agg #[.bool b, s, d], .int .i64 0]) ∧ Frp w' b s d q) ∧ Below w.heap.size w w'
/-- the boxes of two whole numbers, and the result's -/
def MSt (W : World) (A : Nat) (b : Bool) (s : Value) (c : Bool) (t : Value) (x y : Int) : Prop :=
  BxAt W A [.bool b, s] ∧ BxAt W (A + 1) [.bool c, t] ∧ BxAt W (A + 1 + 1) [.bool false, .slice none 0 0, .slice none 0 0] ∧ Whp W b s x ∧ Whp W c t y
theorem MSt.later {W W1 : World} {A : Nat} {b : Bool} {s : Value} {c : Bool} {t : Value} {x y : Int} (h : MSt W A b s c t x y) (hb : Below W.heap.size W W1) : MSt W1 A b s c t x y :=
  ⟨h.1.later hb, h.2.1.later hb, h.2.2.1.later hb, h.2.2.2.1.later hb, h.2.2.2.2.later hb⟩
theorem MSt.cells {W : World} {A : Nat} {b : Bool} {s : Value} {c : Bool} {t : Value} {x y : Int} (h : MSt W A b s c t x y) : W.cell? ⟨A, 0, none⟩ = some (.bool b) ∧ W.cell? ⟨A, 1, none⟩ = some s ∧ W.cell? ⟨A + 1, 0, none⟩ = some (.bool c) ∧ W.cell? ⟨A + 1, 1, none⟩ = some t :=
  ⟨h.1.2.2 0 _ rfl, h.1.2.2 1 _ rfl, h.2.1.2.2 0 _ rfl, h.2.1.2.2 1 _ rfl⟩
theorem MSt.far {W : World} {A : Nat} {b : Bool} {s : Value} {c : Bool} {t : Value} {x y : Int} (h : MSt W A b s c t x y) (u v z : Value) : (set3 W (A + 1 + 1) u v z).cell? ⟨A, 0, none⟩ = some (.bool b) ∧ (set3 W (A + 1 + 1) u v z).cell? ⟨A, 1, none⟩ = some s ∧ (set3 W (A + 1 + 1) u v z).cell? ⟨A + 1, 0, none⟩ = some (.bool c) ∧ (set3 W (A + 1 + 1) u v z).cell? ⟨A + 1, 1, none⟩ = some t := by
  have h1 := h.1.far3 (g' := A + 1 + 1) u v z (by omega)
  have h2 := h.2.1.far3 (g' := A + 1 + 1) u v z (by omega)
  exact ⟨h1.2.2 0 _ rfl, h1.2.2 1 _ rfl, h2.2.2 0 _ rfl, h2.2.2 1 _ rfl⟩
set_option maxRecDepth 100000 in
set_option maxHeartbeats 6400000 in
theorem FMake_any (b : Bool) (s : Value) (c : Bool) (t : Value) (x y : Int) (w : World) (hx : Small x.natAbs) (hy : Small y.natAbs) (hy0 : 0 < y) (h : Whp w b s x) (h2 : Whp w c t y) :
    Calls Try.prog 61 #[.agg #[.bool b, s], .agg #[.bool c, t]] w (FrMPost (mkRat x y.natAbs) w) := by
  have hc : c = false := by rw [h2.1]; exact decide_eq_false (by omega)
  subst hc
  obtain ⟨p1, n1, c1, rfl⟩ := h.form
  obtain ⟨p2, n2, c2, rfl⟩ := h2.form
  have SX := Lib.hid hx
  have SY := Lib.hid hy
  have Y0 := Lib.hid hy0
  have YN : Hid (0 < y.natAbs) := Lib.hid (by omega)
  have SV := Lib.hid (sgn_self h.1)
  obtain ⟨w0, hw0⟩ : ∃ w0, ((w.alloc (.cells #[.bool b, .slice p1 n1 c1] 103)).alloc (.cells #[.bool false, .slice p2 n2 c2] 103)).alloc (.cells #[.bool false, .slice none 0 0, .slice none 0 0] 105) = w0 := ⟨_, rfl⟩
  have F0 : Hid (MSt w0 w.heap.size b (.slice p1 n1 c1) false (.slice p2 n2 c2) x y) := Lib.hid (by rw [← hw0]; exact ⟨bx3_a w _ _ _ _, bx3_b w _ _ _ _, bx3_c w _ _ _ _, h.later (bel3 _ _ _ _), h2.later (bel3 _ _ _ _)⟩)
  have B0 : Hid (Below w.heap.size w w0) := Lib.hid (by rw [← hw0]; exact bel3 _ _ _ _)
  clear h h2 hx hy hy0
  have a0 := F0.out.2.1.2.2 0 _ rfl
  have a1 := F0.out.2.1.2.2 1 _ rfl
  go_enter Try.func61, Try.ntmps61
  go_wp2_with fail
  clear hw0
  refine (Sign_any false _ y w0 SY.out F0.out.2.2.2.2).mono ?_
  rintro e w1 ⟨rfl, hb1⟩
  rw [Int.sign_eq_one_of_pos Y0.out]
  have F1 := Lib.hid (F0.out.later hb1)
  have B1 := Lib.hid (bthen B0.out hb1)
  clear hb1 a0 a1 F0 B0
  go_wp2_with fail
  have N1 : Hid (Nt w1 (.slice p1 n1 c1) x.natAbs) := Lib.hid F1.out.2.2.2.1.2
  have N2 : Hid (Nt w1 (.slice p2 n2 c2) y.natAbs) := Lib.hid F1.out.2.2.2.2.2
  have F2 := F1.out
  have k : Below w1.heap.size w1 w1 := Below.refl _ _
  go_region_held3 (fun w' => w'.cell? ⟨w.heap.size, 0, none⟩ = some (.bool b) ∧ w'.cell? ⟨w.heap.size, 1, none⟩ = some (.slice p1 n1 c1) ∧ w'.cell? ⟨w.heap.size + 1, 0, none⟩ = some (.bool false) ∧ w'.cell? ⟨w.heap.size + 1, 1, none⟩ = some (.slice p2 n2 c2))
    (first | with_reducible exact F2.cells | with_reducible exact F2.far _ _ _ | exact F2.cells)
    (first
      | (go_at_call 75; (with_reducible refine (Make_any _ _ x.natAbs _ SX.out N1.out.drew).mono ?_); rintro e v1 ⟨⟨bp, sp, rfl, P1⟩, hb⟩; obtain ⟨pr, nr, cr, rfl⟩ := P1.form; rw [SV.out] at P1; have k : Below w1.heap.size w1 v1 := bel_drew hb; have F2 := F1.out.later k)
      | (go_at_call 74; (with_reducible refine (FReduce_any bp _ _ x y.natAbs _ SX.out SY.out YN.out P1 (N2.out.later k)).mono ?_); rintro e v7 ⟨⟨bz, sz, dz, rfl, P5⟩, hb⟩; obtain ⟨⟨pz, nz, cz, rfl⟩, py, ny, cy, rfl⟩ := P5.forms; have k := bthen k hb; have F2 := F1.out.later k; have R7 := F2.2.2.1; have r0 := R7.2.2 0 _ rfl; have r1 := R7.2.2 1 _ rfl; have r2 := R7.2.2 2 _ rfl; have rf := R7.2.1))
  all_goals go_wp2_with fail
  refine bodyPost_ret (v := .tuple #[.agg #[.bool bz, .slice pz nz cz, .slice py ny cy], .int .i64 0]) ?_ rfl ⟨⟨_, _, _, rfl, P5.store3 _ _ _ R7⟩, below_store3 (bthen B1.out k) (by omega) _ _ _⟩
  clear F2 k R7 P5
  simp [results, Try.results61, go_sem, r0, r1, r2]
theorem div_rat {p q : Rat} (h : 0 < q.num) : mkRat (p.num * (q.den : Int)) (q.num * (p.den : Int)).natAbs = p / q := by
  rw [Rat.div_def, Rat.mul_def', Rat.num_inv, Rat.den_inv, if_neg (by omega), Int.sign_eq_one_of_pos h, Int.one_mul, Int.natAbs_mul, Int.natAbs_natCast, Nat.mul_comm p.den]
def DivOk (p q : Rat) : Prop := 0 < q.num ∧ q.den ≤ Q62 ∧ p.num.natAbs * q.den ≤ Q62 ∧ q.num.natAbs * p.den ≤ Q62
theorem DivOk.all {a b : Rat} (h : DivOk a b) : (Small a.num.natAbs ∧ Small b.num.natAbs ∧ Small a.den ∧ Small b.den) ∧ (Small ((a.den : Int)).natAbs ∧ Small ((b.den : Int)).natAbs) ∧ Small (a.num * (b.den : Int)).natAbs ∧ Small (b.num * (a.den : Int)).natAbs ∧ 0 < b.num * (a.den : Int) := by
  obtain ⟨h0, hbd, h1, h2⟩ := h
  have pa := a.den_pos
  have pb := b.den_pos
  have e1 := Nat.le_mul_of_pos_right a.num.natAbs pb
  have e2 := Nat.le_mul_of_pos_right b.num.natAbs pa
  have e3 := Nat.le_mul_of_pos_left a.den (show 0 < b.num.natAbs by omega)
  have m1 : (a.num * (b.den : Int)).natAbs = a.num.natAbs * b.den := by rw [Int.natAbs_mul, Int.natAbs_natCast]
  have m2 : (b.num * (a.den : Int)).natAbs = b.num.natAbs * a.den := by rw [Int.natAbs_mul, Int.natAbs_natCast]
  have e4 : 0 < b.num * (a.den : Int) := Int.mul_pos h0 (by omega)
  exact ⟨⟨Small.q (by omega), Small.q (by omega), Small.q (by omega), Small.q (by omega)⟩, ⟨Small.q (by simp; omega), Small.q (by simp; omega)⟩, Small.q (by omega), Small.q (by omega), e4⟩
set_option maxRecDepth 100000 in
set_option maxHeartbeats 6400000 in
theorem FDiv_any (b : Bool) (s d : Value) (c : Bool) (t f : Value) (p q : Rat) (w : World) (hok : DivOk p q) (h : Frp w b s d p) (h2 : Frp w c t f q) :
    Calls Try.prog 50 #[.agg #[.bool b, s, d], .agg #[.bool c, t, f]] w (FrMPost (p / q) w) := by
  obtain ⟨⟨p1, n1, c1, rfl⟩, p2, n2, c2, rfl⟩ := h.forms
  obtain ⟨⟨p3, n3, c3, rfl⟩, p4, n4, c4, rfl⟩ := h2.forms
  have SM := Lib.hid hok.all
  have DP := Lib.hid (And.intro p.den_pos q.den_pos)
  have SUM := Lib.hid (div_rat (p := p) hok.1)
  obtain ⟨w0, hw0, f0, b0⟩ := FSt.new w b _ _ c _ _ p q h h2
  have F0 := Lib.hid f0
  have B0 := Lib.hid b0
  clear h h2 hok f0 b0
  go_enter Try.func50, Try.ntmps50
  go_wp2_with fail
  clear hw0
  go_cut [6] (fun _ wx => FSt wx w.heap.size b (.slice p1 n1 c1) (.slice p2 n2 c2) c (.slice p3 n3 c3) (.slice p4 n4 c4) p q ∧ Below w.heap.size w wx)
  case first =>
    have F2 := F0.out
    have k : Below w0.heap.size w0 w0 := Below.refl _ _
    have D1 : Hid (Nt w0 (.slice p2 n2 c2) p.den) := Lib.hid F0.out.2.2.2.1.2
    have D2 : Hid (Nt w0 (.slice p4 n4 c4) q.den) := Lib.hid F0.out.2.2.2.2.2
    go_region_held3 (fun w' => w'.cell? ⟨w.heap.size, 0, none⟩ = some (.bool b) ∧ w'.cell? ⟨w.heap.size, 1, none⟩ = some (.slice p1 n1 c1) ∧ w'.cell? ⟨w.heap.size, 2, none⟩ = some (.slice p2 n2 c2) ∧ w'.cell? ⟨w.heap.size + 1, 0, none⟩ = some (.bool c) ∧ w'.cell? ⟨w.heap.size + 1, 1, none⟩ = some (.slice p3 n3 c3) ∧ w'.cell? ⟨w.heap.size + 1, 2, none⟩ = some (.slice p4 n4 c4))
      (first | with_reducible exact F2.cells | with_reducible exact F2.once.cells | with_reducible exact F2.again.cells | exact F2.cells)
      (first
        | (go_at_call 60; (with_reducible refine (worth_any b _ _ p.den _ SM.out.1.2.2.1 DP.out.1 (isSl _ _ _) D1.out.drew).mono ?_); rintro e v1 ⟨rfl, hb⟩; have k : Below w0.heap.size w0 v1 := bel_drew hb; have F2 := F0.out.later k)
        | (go_at_call 60; (with_reducible refine (worth_any c _ _ q.den _ SM.out.1.2.2.2 DP.out.2 (isSl _ _ _) (D2.out.later k)).mono ?_); rintro e v2 ⟨rfl, hb⟩; have k := bthen k hb; have F2 := F0.out.later k; have g0 := F2.1.2.2 0 _ rfl; have g1 := F2.1.2.2 1 _ rfl; have g2 := F2.1.2.2 2 _ rfl; have gf := F2.1.2.1; have j0 := F2.2.1.2.2 0 _ rfl; have j1 := F2.2.1.2.2 1 _ rfl; have j2 := F2.2.1.2.2 2 _ rfl; have jf := F2.2.1.2.1))
    all_goals go_wp2_with fail
    all_goals go_meet
    exact ⟨F2.again, below_store3 (below_store3 (bthen B0.out k) (Nat.le_refl _) _ _ _) (by omega) _ _ _⟩
  case rest =>
    obtain ⟨f1, b1⟩ := hcut
    have F1 := Lib.hid f1
    have B1 := Lib.hid b1
    have N1 : Hid (Whp wc b (.slice p1 n1 c1) p.num) := Lib.hid f1.2.2.2.1.1
    have N2 : Hid (Whp wc c (.slice p3 n3 c3) q.num) := Lib.hid f1.2.2.2.2.1
    have D1 : Hid (Nt wc (.slice p2 n2 c2) p.den) := Lib.hid f1.2.2.2.1.2
    have D2 : Hid (Nt wc (.slice p4 n4 c4) q.den) := Lib.hid f1.2.2.2.2.2
    have F2 := f1
    have k : Below wc.heap.size wc wc := Below.refl _ _
    clear f1 b1 F0 B0
    go_wp2_with fail
    go_region_held3 (fun w' => w'.cell? ⟨w.heap.size, 0, none⟩ = some (.bool b) ∧ w'.cell? ⟨w.heap.size, 1, none⟩ = some (.slice p1 n1 c1) ∧ w'.cell? ⟨w.heap.size, 2, none⟩ = some (.slice p2 n2 c2) ∧ w'.cell? ⟨w.heap.size + 1, 0, none⟩ = some (.bool c) ∧ w'.cell? ⟨w.heap.size + 1, 1, none⟩ = some (.slice p3 n3 c3) ∧ w'.cell? ⟨w.heap.size + 1, 2, none⟩ = some (.slice p4 n4 c4))
      (first | with_reducible exact F2.cells | with_reducible exact F2.far _ _ _ | exact F2.cells)
      (first
        | (go_at_call 63; (with_reducible refine (up_any c (.slice p3 n3 c3) (.slice p4 n4 c4) q.den _ D2.out.drew).mono ?_); rintro e v1 ⟨rfl, hb⟩; have k : Below wc.heap.size wc v1 := bel_drew hb; have F2 := F1.out.later k)
        | (go_at_call 62; (with_reducible refine (WMul_any b false _ _ p.num (q.den : Int) _ SM.out.1.1 SM.out.2.1.2 SM.out.2.2.1 (N1.out.later k) (whp_nat (D2.out.later k))).mono ?_); rintro e v2 ⟨⟨bp, sp, rfl, P1⟩, hb⟩; have k := bthen k hb; have F2 := F1.out.later k)
        | (go_at_call 63; (with_reducible refine (up_any b (.slice p1 n1 c1) (.slice p2 n2 c2) p.den _ (D1.out.later k)).mono ?_); rintro e v3 ⟨rfl, hb⟩; have P1 := P1.later hb; have k := bthen k hb; have F2 := F1.out.later k)
        | (go_at_call 62; (with_reducible refine (WMul_any c false _ _ q.num (p.den : Int) _ SM.out.1.2.1 SM.out.2.1.1 SM.out.2.2.2.1 (N2.out.later k) (whp_nat (D1.out.later k))).mono ?_); rintro e v4 ⟨⟨bq, sq, rfl, P2⟩, hb⟩; have P1 := P1.later hb; have k := bthen k hb; have F2 := F1.out.later k)
        | (go_at_call 61; (with_reducible refine (FMake_any bp sp bq sq (p.num * (q.den : Int)) (q.num * (p.den : Int)) _ SM.out.2.2.1 SM.out.2.2.2.1 SM.out.2.2.2.2 P1 P2).mono ?_); rintro e v7 ⟨⟨bz, sz, dz, rfl, P5⟩, hb⟩; obtain ⟨⟨pz, nz, cz, rfl⟩, py, ny, cy, rfl⟩ := P5.forms; have k := bthen k hb; have F2 := F1.out.later k; have R7 := F2.2.2.1; have r0 := R7.2.2 0 _ rfl; have r1 := R7.2.2 1 _ rfl; have r2 := R7.2.2 2 _ rfl; have rf := R7.2.1))
    all_goals go_wp2_with fail
    rw [SUM.out] at P5
    refine bodyPost_ret (v := .tuple #[.agg #[.bool bz, .slice pz nz cz, .slice py ny cy], .int .i64 0]) ?_ rfl ⟨⟨_, _, _, rfl, P5.store3 _ _ _ R7⟩, below_store3 (bthen B1.out k) (by omega) _ _ _⟩
    clear F2 k R7 P5
    simp [results, Try.results50, go_sem, r0, r1, r2]
end Go.Proofs.Ythglgempbdaikaa
namespace Go.Proofs.Ythglgempbdaikaa
open Go.RowKit

def HSt (W : World) (A : Nat) (b : Bool) (s d : Value) (q : Rat) : Prop :=
  BxAt W A [.bool b, s, d] ∧ BxAt W (A + 1) [.bool false, .slice none 0 0] ∧ Frp W b s d q
theorem HSt.later {W W1 : World} {A : Nat} {b : Bool} {s d : Value} {q : Rat} (h : HSt W A b s d q) (hb : Below W.heap.size W W1) : HSt W1 A b s d q := ⟨h.1.later hb, h.2.1.later hb, h.2.2.later hb⟩
theorem HSt.drew {W : World} {A : Nat} {b : Bool} {s d : Value} {q : Rat} (h : HSt W A b s d q) : HSt W.drew A b s d q := h
theorem HSt.once {W : World} {A : Nat} {b : Bool} {p1 p2 : Option Addr} {n1 n2 c1 c2 : Nat} {q : Rat} (h : HSt W A b (.slice p1 n1 c1) (.slice p2 n2 c2) q) : HSt (set3 W A (.bool b) (.slice p1 n1 c1) (.slice p2 n2 c2)) A b (.slice p1 n1 c1) (.slice p2 n2 c2) q :=
  ⟨h.1.put3 _ _ _, h.2.1.far3 _ _ _ (by omega), h.2.2.store3 _ _ _ h.1⟩
theorem HSt.cells {W : World} {A : Nat} {b : Bool} {s d : Value} {q : Rat} (h : HSt W A b s d q) : W.cell? ⟨A, 0, none⟩ = some (.bool b) ∧ W.cell? ⟨A, 1, none⟩ = some s ∧ W.cell? ⟨A, 2, none⟩ = some d :=
  ⟨h.1.2.2 0 _ rfl, h.1.2.2 1 _ rfl, h.1.2.2 2 _ rfl⟩
abbrev set2 (w : World) (g : Nat) (x y : Value) : World := (w.setCell ⟨g, 0, none⟩ x).setCell ⟨g, 1, none⟩ y
/-- a whole number in a block of its own -/
abbrev EndOk (A : Nat) (wc W : World) (g : Nat) (b : Bool) (p : Option Addr) (n c : Nat) (z : Int) : Prop := A < g ∧ BxAt W g [.bool b, .slice p n c] ∧ Whp W b (.slice p n c) z ∧ Below wc.heap.size wc W
section
variable {A : Nat} {wc v : World} {b b' : Bool} {p p' : Option Addr} {n n' c c' : Nat} {z : Int}
theorem end1 (k : Below wc.heap.size wc v) (h : Whp v b (.slice p n c) z) (hA : A < v.heap.size) : EndOk A wc ((v.alloc (.cells #[.bool b, .slice p n c] 103)).alloc (.cells #[.bool b', .slice p' n' c'] 103)) v.heap.size b p n c z :=
  ⟨hA, bx_a v _ _ _, h.later (bel2 _ _ _), bthen k (bel2 _ _ _)⟩
theorem end2 (k : Below wc.heap.size wc v) (h : Whp v b (.slice p n c) z) (hA : A < v.heap.size) : EndOk A wc ((v.alloc (.cells #[.bool b', .slice p' n' c'] 103)).alloc (.cells #[.bool b, .slice p n c] 103)) (v.heap.size + 1) b p n c z :=
  ⟨by omega, bx_b v _ _ _, h.later (bel2 _ _ _), bthen k (bel2 _ _ _)⟩
theorem end3 {g : Nat} (X : BxAt v g [.bool false, .slice none 0 0]) (k : Below wc.heap.size wc v) (h : Whp v b (.slice p n c) z) (hA : A < g) (hg : wc.heap.size ≤ g) : EndOk A wc ((set2 v g (.bool b) (.slice p n c)).alloc (.cells #[.bool b', .slice p' n' c'] 103)) g b p n c z :=
  ⟨hA, (X.put2 _ _).later (below_alloc _ _), (h.store2 _ _ X).later (below_alloc _ _), (below_store2 k hg _ _).alloc (by simp; exact k.size) _⟩
theorem end4 {g g' : Nat} (X : BxAt v g [.bool false, .slice none 0 0]) (Y : BxAt v g' [.bool false, .slice none 0 0]) (k : Below wc.heap.size wc v) (h : Whp v b (.slice p n c) z) (hA : A < g) (hg : wc.heap.size ≤ g) (hg' : wc.heap.size ≤ g') (hne : g ≠ g') :
    EndOk A wc (set2 (set2 v g (.bool b) (.slice p n c)) g' (.bool b') (.slice p' n' c')) g b p n c z :=
  ⟨hA, (X.put2 _ _).far2 _ _ (Ne.symm hne), (h.store2 _ _ X).store2 _ _ (Y.far2 _ _ hne), below_store2 (below_store2 k hg _ _) hg' _ _⟩
theorem end5 {g : Nat} (X : BxAt v g [.bool false, .slice none 0 0]) (k : Below wc.heap.size wc v) (h : Whp v b (.slice p n c) z) (hA : A < v.heap.size) (hg : wc.heap.size ≤ g) : EndOk A wc ((set2 v g (.bool b') (.slice p' n' c')).alloc (.cells #[.bool b, .slice p n c] 103)) v.heap.size b p n c z := by
  have hs : (set2 v g (.bool b') (.slice p' n' c')).heap.size = v.heap.size := by simp
  refine ⟨hA, ?_, (h.store2 _ _ X).later (below_alloc _ _), (below_store2 k hg _ _).alloc (by simp; exact k.size) _⟩
  have := BxAt.new (set2 v g (.bool b') (.slice p' n' c')) [.bool b, .slice p n c] 103
  rw [hs] at this
  exact this
end
set_option maxRecDepth 100000 in
set_option maxHeartbeats 6400000 in
theorem FFloor_any (b : Bool) (s d : Value) (q : Rat) (w : World) (hn : Small (q.num.natAbs + q.den)) (h : Frp w b s d q) :
    Calls Try.prog 67 #[.agg #[.bool b, s, d]] w (WhPost q.floor w) := by
  obtain ⟨⟨p1, n1, c1, rfl⟩, p2, n2, c2, rfl⟩ := h.forms
  have SN : Hid (Small q.num.natAbs) := Lib.hid (hn.le (by omega))
  have SD : Hid (Small q.den) := Lib.hid (hn.le (by omega))
  have SND : Hid (Small (q.num.natAbs + (q.den : Int).natAbs)) := Lib.hid (by simpa using hn)
  have DP := Lib.hid q.den_pos
  have DPI : Hid (0 < (q.den : Int)) := Lib.hid (by have := q.den_pos; omega)
  have FD := Lib.hid (Rat.floor_def q).symm
  obtain ⟨w0, hw0⟩ : ∃ w0, (w.alloc (.cells #[.bool b, .slice p1 n1 c1, .slice p2 n2 c2] 105)).alloc (.cells #[.bool false, .slice none 0 0] 103) = w0 := ⟨_, rfl⟩
  have G0 : Hid (HSt w0 w.heap.size b (.slice p1 n1 c1) (.slice p2 n2 c2) q) := Lib.hid (by rw [← hw0]; exact ⟨bx_a w _ _ _, bx_b w _ _ _, h.later (bel2 _ _ _)⟩)
  have B0 : Hid (Below w.heap.size w w0) := Lib.hid (by rw [← hw0]; exact bel2 _ _ _)
  clear h hn
  have a0 := G0.out.1.2.2 0 _ rfl
  have a1 := G0.out.1.2.2 1 _ rfl
  have a2 := G0.out.1.2.2 2 _ rfl
  go_enter Try.func67, Try.ntmps67
  go_wp2_with fail
  clear hw0 a0 a1 a2
  refine (worth_any b _ _ q.den _ SD.out DP.out (isSl _ _ _) G0.out.2.2.2).mono ?_
  rintro e w1 ⟨rfl, hb1⟩
  have G1 := Lib.hid (G0.out.later hb1)
  have B1 := Lib.hid (bthen B0.out hb1)
  clear hb1
  have a0 := G1.out.1.2.2 0 _ rfl
  have a1 := G1.out.1.2.2 1 _ rfl
  have a2 := G1.out.1.2.2 2 _ rfl
  have af := G1.out.1.2.1
  go_wp2_with fail
  obtain ⟨wc, hwc⟩ : ∃ wc, wc = ((w1.setCell ⟨w.heap.size, 0, none⟩ (.bool b)).setCell ⟨w.heap.size, 1, none⟩ (.slice p1 n1 c1)).setCell ⟨w.heap.size, 2, none⟩ (.slice p2 n2 c2) := ⟨_, rfl⟩
  rw [← hwc]
  have G2 : Hid (HSt wc w.heap.size b (.slice p1 n1 c1) (.slice p2 n2 c2) q) := Lib.hid (by rw [hwc]; exact G1.out.once)
  have B2 : Hid (Below w.heap.size w wc) := Lib.hid (by rw [hwc]; exact below_store3 B1.out (Nat.le_refl _) _ _ _)
  clear hwc a0 a1 a2 af G1 B1 G0 B0
  have N1 : Hid (Whp wc b (.slice p1 n1 c1) q.num) := Lib.hid G2.out.2.2.1
  have D1 : Hid (Nt wc (.slice p2 n2 c2) q.den) := Lib.hid G2.out.2.2.2
  have zc : w.heap.size + 1 < wc.heap.size := G2.out.2.1.1
  have F2 := G2.out
  have k : Below wc.heap.size wc wc := Below.refl _ _
  go_cut [3] (fun s3 wx => ∃ g b6 p6 n6 c6, s3 = .pointer (some ⟨g, 0, none⟩) ∧ w.heap.size + 1 < g ∧ BxAt wx g [.bool b6, .slice p6 n6 c6] ∧ Whp wx b6 (.slice p6 n6 c6) q.floor ∧ Below wc.heap.size wc wx)
  case first =>
    go_region_held3 (fun w' => w'.cell? ⟨w.heap.size, 0, none⟩ = some (.bool b) ∧ w'.cell? ⟨w.heap.size, 1, none⟩ = some (.slice p1 n1 c1) ∧ w'.cell? ⟨w.heap.size, 2, none⟩ = some (.slice p2 n2 c2))
      (first | with_reducible exact F2.cells | with_reducible exact F2.drew.cells | with_reducible exact (F2.later (below_alloc _ _)).cells | with_reducible exact (F2.later (bel2 _ _ _)).cells | with_reducible exact (F2.later (below_alloc _ _)).drew.cells | with_reducible exact (F2.later (bel2 _ _ _)).drew.cells | (refine ⟨?_, ?_, ?_⟩ <;> (repeat (first | with_reducible refine cell_alloc _ ?_ | with_reducible refine cell2_far ?_ (by omega))) <;> (first | with_reducible exact F2.cells.1 | with_reducible exact F2.cells.2.1 | with_reducible exact F2.cells.2.2)))
      (first
        | (go_at_call 63; (with_reducible refine (up_any b _ _ q.den _ D1.out.drew).mono ?_); rintro e v1 ⟨rfl, hb⟩; have k : Below wc.heap.size wc v1 := bel_drew hb; have F2 := G2.out.later k; have z1 := k.size)
        | (go_at_call 63; (with_reducible refine (up_any b _ _ q.den _ (D1.out.later (below_alloc _ _)).drew).mono ?_); rintro e v1 ⟨rfl, hb⟩; have k : Below wc.heap.size wc v1 := bthen (below_alloc _ _) (bel_drew hb); have F2 := G2.out.later k; have z1 := k.size; have N := (BxAt.new wc [.bool false, .slice none 0 0] 103).later (bel_drew hb); have nz := N.1; have nn1 := Nat.ne_of_lt N.1; have nn2 := Nat.ne_of_gt N.1)
        | (go_at_call 63; (with_reducible refine (up_any b _ _ q.den _ (D1.out.later (bel2 _ _ _)).drew).mono ?_); rintro e v1 ⟨rfl, hb⟩; have k : Below wc.heap.size wc v1 := bthen (bel2 _ _ _) (bel_drew hb); have F2 := G2.out.later k; have z1 := k.size; have N := (bx_a wc [.bool false, .slice none 0 0] 103 (.cells #[.bool false, .slice none 0 0] 103)).later (bel_drew hb); have N' := (bx_b wc [.bool false, .slice none 0 0] 103 (.cells #[.bool false, .slice none 0 0] 103)).later (bel_drew hb); have n5 := N.1; have n6 := N'.1)
        | (go_at_call 82; (with_reducible refine (WDiv_any b false _ _ q.num (q.den : Int) _ SN.out DPI.out SND.out (N1.out.later k) (whp_nat (D1.out.later k))).mono ?_); rintro e v2 ⟨⟨bz, sz, bq, pq, nq, mq, rfl, P5⟩, hb⟩; obtain ⟨pz, nz, cz, rfl⟩ := P5.form; have k2 := bthen k hb; have F2 := G2.out.later k2; have z2 := hb.size; (first | (have M := N.later hb; have m0 := M.2.2 0 _ rfl; have m1 := M.2.2 1 _ rfl; have mf := M.2.1; have mz := M.1; have mn := World.new_ne v2 _ m0) | skip); (first | (have M' := N'.later hb; have m0' := M'.2.2 0 _ rfl; have m1' := M'.2.2 1 _ rfl; have mf' := M'.2.1; have mz' := M'.1; have mn' := World.new_ne v2 _ m0') | skip))
        | (go_at_call 82; (with_reducible refine (WDiv_any b false _ _ q.num (q.den : Int) _ SN.out DPI.out SND.out ((N1.out.later k).later (below_alloc _ _)) (whp_nat ((D1.out.later k).later (below_alloc _ _)))).mono ?_); rintro e v2 ⟨⟨bz, sz, bq, pq, nq, mq, rfl, P5⟩, hb⟩; obtain ⟨pz, nz, cz, rfl⟩ := P5.form; have k2 := bthen k (bthen (below_alloc _ _) hb); have F2 := G2.out.later k2; have z2 := (bthen (below_alloc _ _) hb).size; have L := (BxAt.new v1 [.bool false, .slice none 0 0] 103).later hb; have l0 := L.2.2 0 _ rfl; have l1 := L.2.2 1 _ rfl; have lf := L.2.1; have lz := L.1; have ln := World.new_ne v2 _ l0; (first | (have M := N.later (bthen (below_alloc _ _) hb); have m0 := M.2.2 0 _ rfl; have m1 := M.2.2 1 _ rfl; have mf := M.2.1; have mz := M.1; have mn := World.new_ne v2 _ m0) | skip))
        | (go_at_call 82; (with_reducible refine (WDiv_any b false _ _ q.num (q.den : Int) _ SN.out DPI.out SND.out ((N1.out.later k).later (bel2 _ _ _)) (whp_nat ((D1.out.later k).later (bel2 _ _ _)))).mono ?_); rintro e v2 ⟨⟨bz, sz, bq, pq, nq, mq, rfl, P5⟩, hb⟩; obtain ⟨pz, nz, cz, rfl⟩ := P5.form; have k2 := bthen k (bthen (bel2 _ _ _) hb); have F2 := G2.out.later k2; have z2 := (bthen (bel2 _ _ _) hb).size; have L := (bx_a v1 [.bool false, .slice none 0 0] 103 (.cells #[.bool false, .slice none 0 0] 103)).later hb; have l0 := L.2.2 0 _ rfl; have l1 := L.2.2 1 _ rfl; have lf := L.2.1; have lz := L.1; have ln := World.new_ne v2 _ l0; have L' := (bx_b v1 [.bool false, .slice none 0 0] 103 (.cells #[.bool false, .slice none 0 0] 103)).later hb; have l0' := L'.2.2 0 _ rfl; have l1' := L'.2.2 1 _ rfl; have lf' := L'.2.1; have lz' := L'.1; have ln' := World.new_ne v2 _ l0'))
    all_goals go_wp2_with fail
    all_goals go_meet
    all_goals rw [FD.out] at P5
    · with_reducible exact ⟨_, _, _, _, _, rfl, end1 k2 P5 (by omega)⟩
    · with_reducible exact ⟨_, _, _, _, _, rfl, end2 k2 P5 (by omega)⟩
    · with_reducible exact ⟨_, _, _, _, _, rfl, end3 L k2 P5 (by omega) (by omega)⟩
    · with_reducible exact ⟨_, _, _, _, _, rfl, end4 L L' k2 P5 (by omega) (by omega) (by omega) (by omega)⟩
    · with_reducible exact ⟨_, _, _, _, _, rfl, end5 L k2 P5 (by omega) (by omega)⟩
    · with_reducible exact ⟨_, _, _, _, _, rfl, end4 L' L k2 P5 (by omega) (by omega) (by omega) (by omega)⟩
    · with_reducible exact ⟨_, _, _, _, _, rfl, end3 M k2 P5 (by omega) (by omega)⟩
    · with_reducible exact ⟨_, _, _, _, _, rfl, end4 M L k2 P5 (by omega) (by omega) (by omega) (by omega)⟩
    · with_reducible exact ⟨_, _, _, _, _, rfl, end4 M M' k2 P5 (by omega) (by omega) (by omega) (by omega)⟩
    · with_reducible exact ⟨_, _, _, _, _, rfl, end5 M k2 P5 (by omega) (by omega)⟩
    · with_reducible exact ⟨_, _, _, _, _, rfl, end4 L M k2 P5 (by omega) (by omega) (by omega) (by omega)⟩
    · with_reducible exact ⟨_, _, _, _, _, rfl, end4 M' M k2 P5 (by omega) (by omega) (by omega) (by omega)⟩
  case rest =>
    obtain ⟨g, b6, p6, n6, c6, rfl, hg, X6, P6, k6⟩ := hcut
    have R6 := (G2.out.later k6).2.1
    have X := Lib.hid X6
    have P := Lib.hid P6
    have R := Lib.hid R6
    have B6 := Lib.hid (bthen B2.out k6)
    have x0 := X6.2.2 0 _ rfl
    have x1 := X6.2.2 1 _ rfl
    have r0 := R6.2.2 0 _ rfl
    have r1 := R6.2.2 1 _ rfl
    have rf := R6.2.1
    clear X6 P6 R6 k6 k F2
    go_wp2_with fail
    refine bodyPost_ret (v := .agg #[.bool b6, .slice p6 n6 c6]) ?_ rfl ⟨⟨_, _, rfl, P.out.store2 _ _ R.out⟩, below_store2 B6.out (by omega) _ _⟩
    simp [results, Try.results67, go_sem, r0, r1]
end Go.Proofs.Ythglgempbdaikaa
namespace Go.Proofs.Ythglgempbdaikaa
open Go.RowKit

theorem mk_le (z : Int) {n : Nat} (hn : 0 < n) : (mkRat z n).num.natAbs ≤ z.natAbs ∧ (mkRat z n).den ≤ n := by
  rw [Rat.num_mkRat, Rat.den_mkRat, if_neg (by omega), if_neg (by omega)]
  exact ⟨Int.natAbs_ediv_le_natAbs _ _, Nat.div_le_self _ _⟩
theorem floor_le_abs (q : Rat) : q.floor.natAbs ≤ q.num.natAbs := by
  rw [Rat.floor_def]
  exact Int.natAbs_ediv_le_natAbs _ _
/-- a fraction that is not too great for its nearest number -/
def NearOk (q : Rat) : Prop := q.num.natAbs ≤ 17592186044416 ∧ q.den ≤ 1048576
def nearQ (q : Rat) : Int := (q + mkRat 1 2).floor
theorem NearOk.all {q : Rat} (h : NearOk q) : AddOk q (mkRat 1 2) ∧ Small ((q + mkRat 1 2).num.natAbs + (q + mkRat 1 2).den) ∧ (nearQ q).natAbs ≤ 281474976710656 := by
  obtain ⟨h1, h2⟩ := h
  have e1 := half_num.1
  have e2 := half_num.2
  have hp := q.den_pos
  have hm := mk_le (q.num * ((mkRat 1 2).den : Int) + (mkRat 1 2).num * (q.den : Int)) (show 0 < q.den * (mkRat 1 2).den by rw [e2]; omega)
  rw [← Rat.add_def', e1, e2] at hm
  have hf := floor_le_abs (q + mkRat 1 2)
  refine ⟨⟨by rw [e1, e2]; unfold Q62; simp; omega, by rw [e2]; unfold Q62; omega⟩, Small.of (by omega), by unfold nearQ; omega⟩
set_option maxRecDepth 100000 in
set_option maxHeartbeats 6400000 in
theorem Near_any (b : Bool) (s d : Value) (q : Rat) (w : World) (hok : NearOk q) (h : Frp w b s d q) :
    Calls Try.prog 53 #[.agg #[.bool b, s, d]] w (RetPost (.int .i64 (nearQ q)) w) := by
  obtain ⟨⟨p1, n1, c1, rfl⟩, p2, n2, c2, rfl⟩ := h.forms
  have OK := Lib.hid hok.all
  have NQ : Hid ((q + mkRat 1 2).floor = nearQ q) := Lib.hid rfl
  obtain ⟨w0, hw0⟩ : ∃ w0, w.alloc (.cells #[.bool b, .slice p1 n1 c1, .slice p2 n2 c2] 105) = w0 := ⟨_, rfl⟩
  have X0 : Hid (BxAt w0 w.heap.size [.bool b, .slice p1 n1 c1, .slice p2 n2 c2]) := Lib.hid (by rw [← hw0]; exact BxAt.new w _ _)
  have Q0 : Hid (Frp w0 b (.slice p1 n1 c1) (.slice p2 n2 c2) q) := Lib.hid (by rw [← hw0]; exact h.later (below_alloc _ _))
  have B0 : Hid (Below w.heap.size w w0) := Lib.hid (by rw [← hw0]; exact below_alloc _ _)
  clear h hok
  go_enter Try.func53, Try.ntmps53
  go_wp2_with fail
  clear hw0
  have a0 := X0.out.2.2 0 _ rfl
  have a1 := X0.out.2.2 1 _ rfl
  have a2 := X0.out.2.2 2 _ rfl
  have k : Below w0.heap.size w0 w0 := Below.refl _ _
  go_region_held3 (fun w' => w'.cell? ⟨w.heap.size, 0, none⟩ = some (.bool b) ∧ w'.cell? ⟨w.heap.size, 1, none⟩ = some (.slice p1 n1 c1) ∧ w'.cell? ⟨w.heap.size, 2, none⟩ = some (.slice p2 n2 c2))
    (first | with_reducible exact ⟨cell_later k a0, cell_later k a1, cell_later k a2⟩ | exact ⟨a0, a1, a2⟩)
    (first
      | (go_at_call 69; (with_reducible refine (FHalf_any _).mono ?_); rintro e v1 ⟨⟨bh, sh, dh, rfl, P1⟩, hb⟩; have k : Below w0.heap.size w0 v1 := bel_drew hb)
      | (go_at_call 68; (with_reducible refine (FAdd_any b _ _ bh sh dh q (mkRat 1 2) _ OK.out.1 (Q0.out.later k) P1).mono ?_); rintro e v2 ⟨⟨bs, ss, ds, rfl, P2⟩, hb⟩; have k := bthen k hb)
      | (go_at_call 67; (with_reducible refine (FFloor_any bs ss ds (q + mkRat 1 2) _ OK.out.2.1 P2).mono ?_); rintro e v3 ⟨⟨bf, sf, rfl, P3⟩, hb⟩; have k := bthen k hb; rw [NQ.out] at P3)
      | (go_at_call 66; (with_reducible refine (WInt_any bf sf (nearQ q) _ OK.out.2.2 P3).mono ?_); rintro e v4 ⟨rfl, hb⟩; have k := bthen k hb))
  all_goals go_wp2_with fail
  go_ret
  exact ⟨rfl, bthen B0.out k⟩
end Go.Proofs.Ythglgempbdaikaa
namespace Go.Proofs.Ythglgempbdaikaa
open Go.RowKit

theorem floor_mk (z : Int) {n : Nat} (hn : 0 < n) : (mkRat z n).floor = z / (n : Int) := by
  rw [Rat.floor_def, Rat.num_mkRat, Rat.den_mkRat, if_neg (by omega), if_neg (by omega)]
  have hg : 0 < n.gcd z.natAbs := Nat.gcd_pos_of_pos_left _ hn
  obtain ⟨g, hge⟩ : ∃ g, g = n.gcd z.natAbs := ⟨_, rfl⟩
  have d1 : g ∣ n := by rw [hge]; exact Nat.gcd_dvd_left _ _
  have d2 : g ∣ z.natAbs := by rw [hge]; exact Nat.gcd_dvd_right _ _
  rw [← hge] at hg ⊢
  obtain ⟨m, rfl⟩ := d1
  obtain ⟨y, hy⟩ := d2
  have hz : ∃ t : Int, z = (g : Int) * t := by
    rcases Int.le_total 0 z with h | h
    · exact ⟨(y : Int), by rw [← Int.natCast_mul, ← hy]; omega⟩
    · exact ⟨-(y : Int), by rw [Int.mul_neg, ← Int.natCast_mul, ← hy]; omega⟩
  obtain ⟨t, rfl⟩ := hz
  rw [Nat.mul_div_cancel_left _ hg, Int.mul_ediv_cancel_left _ (by omega), Int.natCast_mul, Int.mul_ediv_mul_of_pos _ _ (by omega)]
theorem near_mk (n : Int) {b : Nat} (hb : 0 < b) : nearQ (mkRat n b) = nearI n b := by
  unfold nearQ nearI
  rw [Rat.mkRat_add_mkRat _ _ (by omega) (by omega), floor_mk _ (by omega)]
  congr 1
  · simp; omega
  · simp; omega

/-- r steps of neighbours, by n ^ r -/
def cas (k n : Nat) (X : Nat → Int) : Nat → Nat → Int
  | 0, j => X j
  | r + 1, j => ((n : Int) - k) * cas k n X r j + (k : Int) * cas k n X r (j + 1)
theorem pow_le {n r : Nat} (h1 : 1 ≤ n) (hn : n ≤ 32) (hr : r ≤ 3) : 0 < n ^ r ∧ n ^ r ≤ 32768 := by
  have h0 : r = 0 ∨ r = 1 ∨ r = 2 ∨ r = 3 := by omega
  refine ⟨Nat.pow_pos (by omega), ?_⟩
  have h := Nat.pow_le_pow_left hn r
  rcases h0 with rfl | rfl | rfl | rfl <;> omega
theorem pow_le2 {n r : Nat} (h1 : 1 ≤ n) (hn : n ≤ 32) (hr : r ≤ 2) : 0 < n ^ r ∧ n ^ r ≤ 1024 := by
  have h0 : r = 0 ∨ r = 1 ∨ r = 2 := by omega
  refine ⟨Nat.pow_pos (by omega), ?_⟩
  have h := Nat.pow_le_pow_left hn r
  rcases h0 with rfl | rfl | rfl <;> omega
theorem cas_le {k n m : Nat} {X : Nat → Int} (hk : k ≤ n) (hX : ∀ j, j < m → -8388607 ≤ X j ∧ X j ≤ 8388607) (r j : Nat) (hj : r + j < m) : (cas k n X r j).natAbs ≤ 8388607 * n ^ r := by
  induction r generalizing j with
  | zero => have := hX j (by omega); unfold cas; simp; omega
  | succ r ih =>
    have h1 := ih j (by omega)
    have h2 := ih (j + 1) (by omega)
    unfold cas
    obtain ⟨l, hl⟩ : ∃ l : Nat, n = l + k := ⟨n - k, by omega⟩
    have e : (n : Int) - k = (l : Int) := by omega
    rw [e]
    have t := Int.natAbs_add_le ((l : Int) * cas k n X r j) ((k : Int) * cas k n X r (j + 1))
    rw [Int.natAbs_mul, Int.natAbs_mul, Int.natAbs_natCast, Int.natAbs_natCast] at t
    have a := Nat.mul_le_mul_left l h1
    have b := Nat.mul_le_mul_left k h2
    have c : 8388607 * n ^ (r + 1) = l * (8388607 * n ^ r) + k * (8388607 * n ^ r) := by
      rw [Nat.pow_succ, ← Nat.add_mul, ← hl, Nat.mul_comm (n ^ r) n, ← Nat.mul_assoc, ← Nat.mul_assoc, Nat.mul_comm 8388607 n]
    omega
def TowOk (t p q : Rat) : Prop := AddOk q p ∧ MulOk t (q - p) ∧ AddOk p (t * (q - p))
theorem sub_mk (a b : Int) {N : Nat} : mkRat b N - mkRat a N = mkRat (b - a) N := by
  simp only [Rat.mkRat_eq_div]
  grind
theorem tow_mk (a b : Int) (k : Int) {N n : Nat} : mkRat k n * mkRat (b - a) N = mkRat (k * (b - a)) (N * n) := by
  rw [Rat.mkRat_mul_mkRat, Nat.mul_comm]
theorem tow_mk2 (a b : Int) (k n N : Nat) (hN : 0 < N) (hn : 0 < n) : mkRat a N + mkRat k n * (mkRat b N - mkRat a N) = mkRat (((n : Int) - k) * a + (k : Int) * b) (N * n) := by
  have h1 : (N : Rat) ≠ 0 := by simp; omega
  have h2 : (n : Rat) ≠ 0 := by simp; omega
  simp only [Rat.mkRat_eq_div]
  push_cast
  grind
theorem towOk {a b : Int} {k n N : Nat} (hN : 0 < N ∧ N ≤ 1024) (hk : k ≤ n) (hn : 0 < n ∧ n ≤ 32) (ha : a.natAbs ≤ 8589933568) (hb : b.natAbs ≤ 8589933568) : TowOk (mkRat k n) (mkRat a N) (mkRat b N) := by
  have ma := mk_le a hN.1
  have mb := mk_le b hN.1
  have mt := mk_le (k : Int) hn.1
  have md := mk_le (b - a) hN.1
  have me := mk_le ((k : Int) * (b - a)) (show 0 < N * n from Nat.mul_pos hN.1 hn.1)
  have hd : (b - a).natAbs ≤ 17179867136 := by omega
  have hkd : ((k : Int) * (b - a)).natAbs ≤ 32 * 17179867136 := by
    rw [Int.natAbs_mul]
    exact Nat.mul_le_mul (by omega) hd
  have hNn : N * n ≤ 1024 * 32 := Nat.mul_le_mul hN.2 hn.2
  unfold TowOk
  rw [sub_mk a b, tow_mk a b k]
  unfold AddOk MulOk Q62
  have p1 := Nat.mul_le_mul (show (mkRat b N).num.natAbs ≤ 8589933568 by omega) (show (mkRat a N).den ≤ 1024 by omega)
  have p2 := Nat.mul_le_mul (show (mkRat a N).num.natAbs ≤ 8589933568 by omega) (show (mkRat b N).den ≤ 1024 by omega)
  have p3 := Nat.mul_le_mul (show (mkRat b N).den ≤ 1024 by omega) (show (mkRat a N).den ≤ 1024 by omega)
  have p4 := Nat.mul_le_mul (show (mkRat (k : Int) n).num.natAbs ≤ 32 by omega) (show (mkRat (b - a) N).num.natAbs ≤ 17179867136 by omega)
  have p5 := Nat.mul_le_mul (show (mkRat (k : Int) n).den ≤ 32 by omega) (show (mkRat (b - a) N).den ≤ 1024 by omega)
  have p6 := Nat.mul_le_mul (show (mkRat a N).num.natAbs ≤ 8589933568 by omega) (show (mkRat ((k : Int) * (b - a)) (N * n)).den ≤ 32768 by omega)
  have p7 := Nat.mul_le_mul (show (mkRat ((k : Int) * (b - a)) (N * n)).num.natAbs ≤ 549755748352 by omega) (show (mkRat a N).den ≤ 1024 by omega)
  have p8 := Nat.mul_le_mul (show (mkRat a N).den ≤ 1024 by omega) (show (mkRat ((k : Int) * (b - a)) (N * n)).den ≤ 32768 by omega)
  refine ⟨⟨by omega, by omega⟩, ⟨by omega, by omega, by omega, by omega⟩, by omega, by omega⟩
/-- the fractions of r steps -/
def lev (k n : Nat) (X : Nat → Int) (r j : Nat) : Rat := mkRat (cas k n X r j) (n ^ r)
theorem lev_zero (k n : Nat) (X : Nat → Int) (j : Nat) : lev k n X 0 j = (X j : Rat) := by
  unfold lev cas
  simp [Rat.mkRat_eq_div]
  try grind
theorem lev_succ (k n : Nat) (X : Nat → Int) (r j : Nat) (hn : 0 < n) : lev k n X r j + mkRat k n * (lev k n X r (j + 1) - lev k n X r j) = lev k n X (r + 1) j := by
  unfold lev
  rw [tow_mk2 _ _ k n _ (Nat.pow_pos hn) hn]
  rfl
theorem lev_ok {k n m : Nat} {X : Nat → Int} (hk : k ≤ n) (hn : 0 < n ∧ n ≤ 32) (hX : ∀ j, j < m → -8388607 ≤ X j ∧ X j ≤ 8388607) (r j : Nat) (hr : r ≤ 2) (hj : r + (j + 1) < m) : TowOk (mkRat k n) (lev k n X r j) (lev k n X r (j + 1)) := by
  have hN := pow_le2 (n := n) (r := r) hn.1 hn.2 hr
  have h1 := cas_le hk hX r j (by omega)
  have h2 := cas_le hk hX r (j + 1) hj
  exact towOk hN hk hn (by omega) (by omega)
theorem lev_near {k n m : Nat} {X : Nat → Int} (hm : m = 3 ∨ m = 4) (hk : k ≤ n) (hn : 0 < n ∧ n ≤ 32) (hX : ∀ j, j < m → -8388607 ≤ X j ∧ X j ≤ 8388607) : NearOk (lev k n X (m - 1) 0) ∧ nearQ (lev k n X (m - 1) 0) = partN X m n k := by
  have hN := pow_le (n := n) (r := m - 1) hn.1 hn.2 (by omega)
  have h1 := cas_le hk hX (m - 1) 0 (by omega)
  have h2 := mk_le (cas k n X (m - 1) 0) hN.1
  constructor
  · unfold lev NearOk
    omega
  · unfold lev
    rw [near_mk _ hN.1]
    unfold partN
    congr 1
    · rcases hm with rfl | rfl
      · simp [sumW, wt, cas]
        grind
      · simp [sumW, wt, cas]
        grind
    · rcases hm with rfl | rfl
      · simp [byI]
        grind
      · simp [byI]
        grind
theorem div_mk (k n : Nat) : ((k : Int) : Rat) / ((n : Int) : Rat) = mkRat k n := (Rat.mkRat_eq_div k n).symm
theorem div_ok {k n : Nat} (hk : k ≤ n) (hn : 0 < n ∧ n ≤ 32) : DivOk ((k : Int) : Rat) ((n : Int) : Rat) := by
  unfold DivOk Q62
  simp only [Rat.num_intCast, Rat.den_intCast]
  omega
end Go.Proofs.Ythglgempbdaikaa
namespace Go.Proofs.Ythglgempbdaikaa
open Go.RowKit

theorem rabs_any (n : Int) (w : World) (h0 : -9000000000000000000 ≤ n) (h1 : n ≤ 9000000000000000000) : Calls Try.prog 59 #[.int .i64 n] w fun e w' => e = .returned (.int .i64 (absI n)) ∧ w = w' := by
  by_cases h : n < 0
  · have e : absI n = -n := if_pos h
    rw [e]; clear e
    go_enter Try.func59, Try.ntmps59
    go_wp2
    go_ret
    exact ⟨rfl, rfl⟩
  · have e : absI n = n := if_neg h
    rw [e]; clear e
    go_enter Try.func59, Try.ntmps59
    go_wp2
    go_ret
    exact ⟨rfl, rfl⟩
theorem bend_eq (a b c : Int) : bendI a b c = absI (a + c - 2 * b) := by
  unfold bendI
  congr 1
  omega
set_option maxRecDepth 100000 in
set_option maxHeartbeats 4000000 in
theorem rpieces_any (g off n cap : Nat) (X Y : Nat → Int) (w : World) (hn : n ≤ 1000) (h : PtAt w g off n X Y) :
    Calls Try.prog 48 #[.slice (some ⟨g, off, none⟩) n cap] w (RetPost (.int .i64 (piecesN X Y n)) w) := by
  have HH := Lib.hid h
  clear h
  have HV : Hid (fitsTo X Y n = false → piecesN X Y n = 0) := Lib.hid (fun hf => by unfold piecesN; rw [hf]; rfl)
  have HW : Hid (fitsTo X Y n = true → piecesN X Y n = pc (dTo X Y (n - 2))) := Lib.hid (fun hf => by unfold piecesN; rw [if_pos hf])
  go_enter Try.func48, Try.ntmps48
  go_wp2_with fail
  go_loopw [4] (fun i wr => ∃ k : Nat, k ≤ n ∧ i = .int .i64 k ∧ FRel X Y w k wr) (fun i _ => n - (intOf i).toNat)
  case atStart => exact ⟨0, Nat.zero_le _, rfl, rfl, Below.refl _ _⟩
  case round =>
    obtain ⟨k, hk, rfl, hf, hb⟩ := hrel
    by_cases hlt : k < n
    · obtain ⟨c0, c1⟩ := HH.out k hlt
      have d0 := cell_later hb c0
      have d1 := cell_later hb c1
      have F := Lib.hid (And.intro hf hb)
      clear c0 c1 hf hb
      obtain ⟨x, hx⟩ : ∃ x, x = X k := ⟨_, rfl⟩
      obtain ⟨y, hy⟩ : ∃ y, y = Y k := ⟨_, rfl⟩
      rw [← hx] at d0
      rw [← hy] at d1
      have HF : Hid (fits (X k) (Y k) = fits x y) := Lib.hid (by rw [hx, hy])
      clear hx hy
      have hk0 : (0 : Int) ≤ (k : Int) := by omega
      have hk3 : (k : Int) < (n : Int) := by omega
      go_wp2_with fail
      refine (rfits_any x y _).mono ?_
      rintro e w1 ⟨rfl, hw1⟩
      have hb1 : Below wr.heap.size wr w1 := by rw [hw1]; exact below_alloc _ _
      have B1 := Lib.hid (bthen F.out.2 hb1)
      clear hw1 hb1 d0 d1
      cases hfit : fits x y
      · go_wp2_with fail
        go_ret
        exact ⟨by rw [HV.out (fitsTo_lt hlt (HF.out.trans hfit))]; rfl, B1.out⟩
      · have HFF := Lib.hid hfit
        clear hfit
        go_wp2_with fail
        refine ⟨⟨k + 1, by omega, by go_num, ⟨by simp [fitsTo, HF.out, HFF.out, F.out.1], B1.out⟩⟩, by (first | (simp [intOf]; done) | (simp [intOf]; omega) | (simp only [intOf]; omega))⟩
    · obtain rfl : k = n := by omega
      have HF := Lib.hid hf
      have B0 := Lib.hid hb
      clear hf hb hk HV
      go_wp2_with fail
      go_loopw [3, 5] (fun d i wz => ∃ p : Nat, (p + 2 ≤ k ∨ p = 0) ∧ i = .int .i64 p ∧ d = .int .i64 (dTo X Y p) ∧ Below w.heap.size w wz) (fun _ i _ => k + 2 - (intOf i).toNat)
      case atStart => exact ⟨0, Or.inr rfl, rfl, rfl, B0.out⟩
      case round =>
        obtain ⟨p, hp, rfl, rfl, hb⟩ := hrel
        by_cases hlt : p + 2 < k
        · obtain ⟨c0, c1⟩ := HH.out p (by omega)
          obtain ⟨c2, c3⟩ := HH.out (p + 1) (by omega)
          obtain ⟨c4, c5⟩ := HH.out (p + 2) (by omega)
          have d0 := cell_later hb c0
          have d1 := cell_later hb c1
          have d2 := cell_later hb c2
          have d3 := cell_later hb c3
          have d4 := cell_later hb c4
          have d5 := cell_later hb c5
          clear c0 c1 c2 c3 c4 c5
          obtain ⟨a1, a2⟩ := fits_iff (fitsTo_at (k := p) (by omega) HF.out)
          obtain ⟨b1, b2⟩ := fits_iff (fitsTo_at (k := p + 1) (by omega) HF.out)
          obtain ⟨e1, e2⟩ := fits_iff (fitsTo_at (k := p + 2) (by omega) HF.out)
          have D := Lib.hid (dTo_le (p := p) (by omega) HF.out)
          have HB1 := Lib.hid hb
          clear hb
          obtain ⟨x0, hx0⟩ : ∃ x, x = X p := ⟨_, rfl⟩
          obtain ⟨x1, hx1⟩ : ∃ x, x = X (p + 1) := ⟨_, rfl⟩
          obtain ⟨x2, hx2⟩ : ∃ x, x = X (p + 2) := ⟨_, rfl⟩
          obtain ⟨y0, hy0⟩ : ∃ x, x = Y p := ⟨_, rfl⟩
          obtain ⟨y1, hy1⟩ : ∃ x, x = Y (p + 1) := ⟨_, rfl⟩
          obtain ⟨y2, hy2⟩ : ∃ x, x = Y (p + 2) := ⟨_, rfl⟩
          obtain ⟨dd, hdd⟩ : ∃ x, x = dTo X Y p := ⟨_, rfl⟩
          have hnext : dTo X Y (p + 1) = max3 dd (absI (x0 + x2 - 2 * x1)) (absI (y0 + y2 - 2 * y1)) := by subst hx0 hx1 hx2 hy0 hy1 hy2 hdd; rw [← bend_eq, ← bend_eq]; rfl
          have HN := Lib.hid hnext
          clear hnext
          rw [← hx0] at d0 a1
          rw [← hy0] at d1 a2
          rw [← hx1] at d2 b1
          rw [← hy1] at d3 b2
          rw [← hx2] at d4 e1
          rw [← hy2] at d5 e2
          rw [← hdd] at D
          rw [← hdd]
          clear hx0 hx1 hx2 hy0 hy1 hy2 hdd
          go_wp2_with fail
          go_quiet (first | (go_at_call 59; exact Calls.quiet_of_same ((rabs_any _ _ (by omega) (by omega)).mono (by rintro e w2 ⟨rfl, rfl⟩; exact ⟨rfl, rfl⟩))))
          go_wp2_with fail
          refine ⟨⟨p + 1, by omega, by go_num, by rw [HN.out]; rfl, below_drewN HB1.out _⟩, by (first | (simp [intOf]; done) | (simp [intOf]; omega) | (simp only [intOf]; omega))⟩
        · have hpn : p = k - 2 := by omega
          have D := dTo_le hp HF.out
          have HB1 := Lib.hid hb
          clear hb
          obtain ⟨dd, hdd⟩ : ∃ x, x = dTo X Y p := ⟨_, rfl⟩
          rw [← hdd] at D ⊢
          have HQ : Hid (piecesN X Y k = pc dd) := Lib.hid (by rw [HW.out HF.out, hdd, hpn])
          clear hdd hpn HW
          obtain ⟨D1, D2⟩ := D
          obtain ⟨ii, hii⟩ : ∃ ii : Int, ii = (p : Int) := ⟨_, rfl⟩
          rw [← hii]
          have hi1 : ¬ ii + 2 < (k : Int) := by omega
          have hi2 : ii ≤ 100000 := by omega
          have hi3 : 0 ≤ ii := by omega
          clear hii
          go_wp2_with fail
          go_loopw [6] (fun i wz => ∃ q : Nat, 1 ≤ q ∧ q ≤ 32 ∧ i = .int .i64 q ∧ pcFrom dd (32 - q) q = pc dd ∧ Below w.heap.size w wz) (fun i _ => 33 - (intOf i).toNat)
          case atStart => exact ⟨1, by omega, by omega, rfl, rfl, HB1.out⟩
          case round =>
            obtain ⟨q, hq1, hq2, rfl, hpc, hbz⟩ := hrel
            have HZ := Lib.hid hbz
            clear hbz
            have HZZ := Lib.hid hpc
            clear hpc
            by_cases hq : q < 32
            · have m1 := mul_bd (a := 16 * (q : Int)) (x := (q : Int)) (A := 512) (X := 32) (by omega) (by omega)
              simp only [Int.reduceMul, Int.reduceNeg] at m1
              obtain ⟨m11, m12⟩ := m1
              by_cases hd : 16 * (q : Int) * q < dd
              · have HS : Hid (pcFrom dd (32 - (q + 1)) (q + 1) = pc dd) := Lib.hid (by
                  have h := HZZ.out
                  have e : 32 - q = (32 - (q + 1)) + 1 := by omega
                  rw [e] at h
                  unfold pcFrom at h
                  rw [if_pos hd] at h
                  exact h)
                go_wp2_with fail
                refine ⟨⟨q + 1, by omega, by omega, by go_num, HS.out, HZ.out⟩, by (first | (simp [intOf]; done) | (simp [intOf]; omega) | (simp only [intOf]; omega))⟩
              · have HS : Hid (q = pc dd) := Lib.hid (by
                  have h := HZZ.out
                  have e : 32 - q = (32 - (q + 1)) + 1 := by omega
                  rw [e] at h
                  unfold pcFrom at h
                  rw [if_neg (by omega)] at h
                  exact h)
                go_wp2_with fail
                go_ret
                exact ⟨by rw [HQ.out, ← HS.out]; rfl, HZ.out⟩
            · have ek : q = 32 := by omega
              subst ek
              go_wp2_with fail
              go_ret
              refine ⟨?_, HZ.out⟩
              have h := HZZ.out
              rw [HQ.out, ← h]; rfl
end Go.Proofs.Ythglgempbdaikaa
namespace Go.Proofs.Ythglgempbdaikaa
open Go.RowKit

/-- a value that is a fraction -/
def Frv (w : World) (v : Value) (q : Rat) : Prop := ∃ b p1 n1 c1 p2 n2 c2, v = .agg #[.bool b, .slice p1 n1 c1, .slice p2 n2 c2] ∧ Frp w b (.slice p1 n1 c1) (.slice p2 n2 c2) q
theorem Frv.later {w w1 : World} {v : Value} {q : Rat} (h : Frv w v q) (hb : Below w.heap.size w w1) : Frv w1 v q := by
  obtain ⟨b, p1, n1, c1, p2, n2, c2, hv, hf⟩ := h
  exact ⟨b, p1, n1, c1, p2, n2, c2, hv, hf.later hb⟩
/-- six cells that are a spot's -/
def SpCells (c : Nat → Option Value) (w : World) (p q : Rat) : Prop := ∃ b p1 n1 c1 p2 n2 c2 d p3 n3 c3 p4 n4 c4,
  (c 0 = some (.bool b) ∧ c 1 = some (.slice p1 n1 c1) ∧ c 2 = some (.slice p2 n2 c2) ∧ c 3 = some (.bool d) ∧ c 4 = some (.slice p3 n3 c3) ∧ c 5 = some (.slice p4 n4 c4)) ∧
  Frp w b (.slice p1 n1 c1) (.slice p2 n2 c2) p ∧ Frp w d (.slice p3 n3 c3) (.slice p4 n4 c4) q
/-- a value that is a spot -/
def Spv (w : World) (v : Value) (p q : Rat) : Prop := ∃ b p1 n1 c1 p2 n2 c2 d p3 n3 c3 p4 n4 c4,
  v = .agg #[.bool b, .slice p1 n1 c1, .slice p2 n2 c2, .bool d, .slice p3 n3 c3, .slice p4 n4 c4] ∧
  Frp w b (.slice p1 n1 c1) (.slice p2 n2 c2) p ∧ Frp w d (.slice p3 n3 c3) (.slice p4 n4 c4) q
theorem Spv.later {w w1 : World} {v : Value} {p q : Rat} (h : Spv w v p q) (hb : Below w.heap.size w w1) : Spv w1 v p q := by
  obtain ⟨b, p1, n1, c1, p2, n2, c2, d, p3, n3, c3, p4, n4, c4, hv, hf, hg⟩ := h
  exact ⟨b, p1, n1, c1, p2, n2, c2, d, p3, n3, c3, p4, n4, c4, hv, hf.later hb, hg.later hb⟩
def SpPost (p q : Rat) (w : World) (e : Ending) (w' : World) : Prop := (∃ v, e = .returned v ∧ Spv w' v p q) ∧ Below w.heap.size w w'
abbrev set6 (w : World) (g : Nat) (x y z x' y' z' : Value) : World := (((set3 w g x y z).setCell ⟨g, 3, none⟩ x').setCell ⟨g, 4, none⟩ y').setCell ⟨g, 5, none⟩ z'
abbrev z6 : List Value := [.bool false, .slice none 0 0, .slice none 0 0, .bool false, .slice none 0 0, .slice none 0 0]
theorem Frp.setCell {w : World} {b : Bool} {s d : Value} {q : Rat} {a : Addr} {u : Value} (x : Value) (h : Frp w b s d q) (hu : w.cell? a = some u) (hne : ∀ kk z, u ≠ .int kk z) : Frp (w.setCell a x) b s d q :=
  ⟨⟨h.1.1, h.1.2.setCell x hu hne⟩, h.2.setCell x hu hne⟩
theorem Frp.store6 {w : World} {b : Bool} {s d : Value} {q : Rat} {g : Nat} (x y z x' y' z' : Value) (h : Frp w b s d q) (X : BxAt w g z6) : Frp (set6 w g x y z x' y' z') b s d q := by
  have X1 := X.put 0 x (by simp)
  have X2 := X1.put 1 y (by simp)
  have X3 := X2.put 2 z (by simp)
  have X4 := X3.put 3 x' (by simp)
  have X5 := X4.put 4 y' (by simp)
  exact (((((h.setCell x (X.2.2 0 _ rfl) (by intro _ _ h; cases h)).setCell y (X1.2.2 1 _ rfl) (by intro _ _ h; cases h)).setCell z (X2.2.2 2 _ rfl) (by intro _ _ h; cases h)).setCell x' (X3.2.2 3 _ rfl) (by intro _ _ h; cases h)).setCell y' (X4.2.2 4 _ rfl) (by intro _ _ h; cases h)).setCell z' (X5.2.2 5 _ rfl) (by intro _ _ h; cases h)
theorem below_store6 {B : Nat} {w0 w : World} {g : Nat} (h : Below B w0 w) (hg : B ≤ g) (x y z x' y' z' : Value) : Below B w0 (set6 w g x y z x' y' z') :=
  (((below_store3 h hg x y z).setCell (p := ⟨g, 3, none⟩) hg _).setCell (p := ⟨g, 4, none⟩) hg _).setCell (p := ⟨g, 5, none⟩) hg _
/-- the boxes of a point, and of a spot that is to be -/
def PSt (W : World) (A : Nat) (x y : Int) : Prop := BxAt W A [.int .i64 x, .int .i64 y] ∧ BxAt W (A + 1) z6
theorem PSt.later {W W1 : World} {A : Nat} {x y : Int} (h : PSt W A x y) (hb : Below W.heap.size W W1) : PSt W1 A x y := ⟨h.1.later hb, h.2.later hb⟩
theorem PSt.cells {W : World} {A : Nat} {x y : Int} (h : PSt W A x y) : W.cell? ⟨A, 0, none⟩ = some (.int .i64 x) ∧ W.cell? ⟨A, 1, none⟩ = some (.int .i64 y) := ⟨h.1.2.2 0 _ rfl, h.1.2.2 1 _ rfl⟩
theorem PSt.drew {W : World} {A : Nat} {x y : Int} (h : PSt W A x y) : PSt W.drew A x y := h
theorem BxAt.far6 {w : World} {g g' : Nat} {cs : List Value} (h : BxAt w g cs) (x y z x' y' z' : Value) (hne : g' ≠ g) : BxAt (set6 w g' x y z x' y' z') g cs := (((h.far3 x y z hne).far1 x' hne).far1 y' hne).far1 z' hne
theorem PSt.far {W : World} {A : Nat} {x y : Int} (h : PSt W A x y) (u1 u2 u3 u4 u5 u6 : Value) : (set6 W (A + 1) u1 u2 u3 u4 u5 u6).cell? ⟨A, 0, none⟩ = some (.int .i64 x) ∧ (set6 W (A + 1) u1 u2 u3 u4 u5 u6).cell? ⟨A, 1, none⟩ = some (.int .i64 y) :=
  ⟨(h.1.far6 u1 u2 u3 u4 u5 u6 (by omega)).2.2 0 _ rfl, (h.1.far6 u1 u2 u3 u4 u5 u6 (by omega)).2.2 1 _ rfl⟩
theorem PSt.res {W : World} {A : Nat} {x y : Int} (h : PSt W A x y) : BxAt W (A + 1) z6 := h.2
theorem res6 {W : World} {g : Nat} (h : BxAt W g z6) : W.cell? ⟨g, 0, none⟩ = some (.bool false) ∧ W.cell? ⟨g, 1, none⟩ = some (.slice none 0 0) ∧ W.cell? ⟨g, 2, none⟩ = some (.slice none 0 0) ∧ W.cell? ⟨g, 3, none⟩ = some (.bool false) ∧ W.cell? ⟨g, 4, none⟩ = some (.slice none 0 0) ∧ W.cell? ⟨g, 5, none⟩ = some (.slice none 0 0) ∧ ∀ k, W.frozen? ⟨g, k, none⟩ = false :=
  ⟨h.2.2 0 _ rfl, h.2.2 1 _ rfl, h.2.2 2 _ rfl, h.2.2 3 _ rfl, h.2.2 4 _ rfl, h.2.2 5 _ rfl, h.2.1⟩
set_option maxRecDepth 100000 in
set_option maxHeartbeats 6400000 in
theorem At_any (x y : Int) (w : World) (hx : -8388607 ≤ x ∧ x ≤ 8388607) (hy : -8388607 ≤ y ∧ y ≤ 8388607) : Calls Try.prog 49 #[.agg #[.int .i64 x, .int .i64 y]] w (SpPost (x : Rat) (y : Rat) w) := by
  have I1 : Hid ((-I63 ≤ x ∧ x < I63) ∧ (-I63 ≤ y ∧ y < I63)) := Lib.hid (by unfold I63; omega)
  clear hx hy
  obtain ⟨w0, hw0⟩ : ∃ w0, (w.alloc (.cells #[.int .i64 x, .int .i64 y] 42)).alloc (.cells #[.bool false, .slice none 0 0, .slice none 0 0, .bool false, .slice none 0 0, .slice none 0 0] 107) = w0 := ⟨_, rfl⟩
  have F0 : Hid (PSt w0 w.heap.size x y) := Lib.hid (by rw [← hw0]; exact ⟨bx_a w _ _ _, bx_b w _ _ _⟩)
  have B0 : Hid (Below w.heap.size w w0) := Lib.hid (by rw [← hw0]; exact bel2 _ _ _)
  obtain ⟨i0, i1⟩ := F0.out.cells
  go_enter Try.func49, Try.ntmps49
  go_wp2_with fail
  clear hw0
  have K := F0.out
  have k : Below w0.heap.size w0 w0 := Below.refl _ _
  go_region_held3 (fun w' => w'.cell? ⟨w.heap.size, 0, none⟩ = some (.int .i64 x) ∧ w'.cell? ⟨w.heap.size, 1, none⟩ = some (.int .i64 y))
    (first | with_reducible exact K.cells | with_reducible exact K.drew.cells | with_reducible exact K.far _ _ _ _ _ _)
    (first
      | (go_at_call 51; (with_reducible refine (FInt_any x _ I1.out.1.1 I1.out.1.2).mono ?_); rintro e v1 ⟨⟨b1, s1, d1, rfl, P1⟩, hb⟩; obtain ⟨⟨p1, n1, c1, rfl⟩, p2, n2, c2, rfl⟩ := P1.forms; have k : Below w0.heap.size w0 v1 := bel_drew hb; have K := F0.out.later k)
      | (go_at_call 51; (with_reducible refine (FInt_any y _ I1.out.2.1 I1.out.2.2).mono ?_); rintro e v2 ⟨⟨b2, s2, d2, rfl, P2⟩, hb⟩; obtain ⟨⟨p3, n3, c3, rfl⟩, p4, n4, c4, rfl⟩ := P2.forms; have k := bthen k hb; have K := F0.out.later k; have P1 := P1.later hb; have R := K.res; obtain ⟨r0, r1, r2, r3, r4, r5, rf⟩ := res6 R))
  all_goals go_wp2_with fail
  refine bodyPost_ret (v := .agg #[.bool b1, .slice p1 n1 c1, .slice p2 n2 c2, .bool b2, .slice p3 n3 c3, .slice p4 n4 c4]) ?_ rfl ⟨⟨_, rfl, b1, p1, n1, c1, p2, n2, c2, b2, p3, n3, c3, p4, n4, c4, rfl, P1.store6 _ _ _ _ _ _ R, P2.store6 _ _ _ _ _ _ R⟩, below_store6 (bthen B0.out k) (by omega) _ _ _ _ _ _⟩
  clear K k R P1 P2
  simp [results, Try.results49, go_sem, r0, r1, r2, r3, r4, r5]
end Go.Proofs.Ythglgempbdaikaa
namespace Go.Proofs.Ythglgempbdaikaa
open Go.RowKit

/-- the boxes of two spots, a fraction, and a spot that is to be -/
def TSt (W : World) (A : Nat) (x0 x1 x2 x3 x4 x5 y0 y1 y2 y3 y4 y5 t0 t1 t2 : Value) : Prop :=
  BxAt W A [x0, x1, x2, x3, x4, x5] ∧ BxAt W (A + 1) [y0, y1, y2, y3, y4, y5] ∧ BxAt W (A + 1 + 1) [t0, t1, t2] ∧ BxAt W (A + 1 + 1 + 1) z6
section
variable {W W1 : World} {A : Nat} {x0 x1 x2 x3 x4 x5 y0 y1 y2 y3 y4 y5 t0 t1 t2 : Value}
theorem TSt.later (h : TSt W A x0 x1 x2 x3 x4 x5 y0 y1 y2 y3 y4 y5 t0 t1 t2) (hb : Below W.heap.size W W1) : TSt W1 A x0 x1 x2 x3 x4 x5 y0 y1 y2 y3 y4 y5 t0 t1 t2 :=
  ⟨h.1.later hb, h.2.1.later hb, h.2.2.1.later hb, h.2.2.2.later hb⟩
abbrev TCells (W : World) (A : Nat) (x0 x1 x2 x3 x4 x5 y0 y1 y2 y3 y4 y5 t0 t1 t2 : Value) : Prop :=
  W.cell? ⟨A, 0, none⟩ = some x0 ∧ W.cell? ⟨A, 1, none⟩ = some x1 ∧ W.cell? ⟨A, 2, none⟩ = some x2 ∧ W.cell? ⟨A, 3, none⟩ = some x3 ∧ W.cell? ⟨A, 4, none⟩ = some x4 ∧ W.cell? ⟨A, 5, none⟩ = some x5 ∧
  W.cell? ⟨A + 1, 0, none⟩ = some y0 ∧ W.cell? ⟨A + 1, 1, none⟩ = some y1 ∧ W.cell? ⟨A + 1, 2, none⟩ = some y2 ∧ W.cell? ⟨A + 1, 3, none⟩ = some y3 ∧ W.cell? ⟨A + 1, 4, none⟩ = some y4 ∧ W.cell? ⟨A + 1, 5, none⟩ = some y5 ∧
  W.cell? ⟨A + 1 + 1, 0, none⟩ = some t0 ∧ W.cell? ⟨A + 1 + 1, 1, none⟩ = some t1 ∧ W.cell? ⟨A + 1 + 1, 2, none⟩ = some t2
theorem TSt.cells (h : TSt W A x0 x1 x2 x3 x4 x5 y0 y1 y2 y3 y4 y5 t0 t1 t2) : TCells W A x0 x1 x2 x3 x4 x5 y0 y1 y2 y3 y4 y5 t0 t1 t2 :=
  ⟨h.1.2.2 0 _ rfl, h.1.2.2 1 _ rfl, h.1.2.2 2 _ rfl, h.1.2.2 3 _ rfl, h.1.2.2 4 _ rfl, h.1.2.2 5 _ rfl,
   h.2.1.2.2 0 _ rfl, h.2.1.2.2 1 _ rfl, h.2.1.2.2 2 _ rfl, h.2.1.2.2 3 _ rfl, h.2.1.2.2 4 _ rfl, h.2.1.2.2 5 _ rfl, h.2.2.1.2.2 0 _ rfl, h.2.2.1.2.2 1 _ rfl, h.2.2.1.2.2 2 _ rfl⟩
theorem TSt.drew (h : TSt W A x0 x1 x2 x3 x4 x5 y0 y1 y2 y3 y4 y5 t0 t1 t2) : TSt W.drew A x0 x1 x2 x3 x4 x5 y0 y1 y2 y3 y4 y5 t0 t1 t2 := h
theorem TSt.res (h : TSt W A x0 x1 x2 x3 x4 x5 y0 y1 y2 y3 y4 y5 t0 t1 t2) : BxAt W (A + 1 + 1 + 1) z6 := h.2.2.2
theorem TSt.far (h : TSt W A x0 x1 x2 x3 x4 x5 y0 y1 y2 y3 y4 y5 t0 t1 t2) (u1 u2 u3 u4 u5 u6 : Value) : TCells (set6 W (A + 1 + 1 + 1) u1 u2 u3 u4 u5 u6) A x0 x1 x2 x3 x4 x5 y0 y1 y2 y3 y4 y5 t0 t1 t2 := by
  have a := h.1.far6 (g' := A + 1 + 1 + 1) u1 u2 u3 u4 u5 u6 (by omega)
  have b := h.2.1.far6 (g' := A + 1 + 1 + 1) u1 u2 u3 u4 u5 u6 (by omega)
  have c := h.2.2.1.far6 (g' := A + 1 + 1 + 1) u1 u2 u3 u4 u5 u6 (by omega)
  exact ⟨a.2.2 0 _ rfl, a.2.2 1 _ rfl, a.2.2 2 _ rfl, a.2.2 3 _ rfl, a.2.2 4 _ rfl, a.2.2 5 _ rfl,
   b.2.2 0 _ rfl, b.2.2 1 _ rfl, b.2.2 2 _ rfl, b.2.2 3 _ rfl, b.2.2 4 _ rfl, b.2.2 5 _ rfl, c.2.2 0 _ rfl, c.2.2 1 _ rfl, c.2.2 2 _ rfl⟩
end
theorem bel4 (w : World) (o o2 o3 o4 : Obj) : Below w.heap.size w ((((w.alloc o).alloc o2).alloc o3).alloc o4) := bthen (bel3 w o o2 o3) (below_alloc _ o4)
theorem TSt.new (w : World) (x0 x1 x2 x3 x4 x5 y0 y1 y2 y3 y4 y5 t0 t1 t2 : Value) : TSt ((((w.alloc (.cells #[x0, x1, x2, x3, x4, x5] 107)).alloc (.cells #[y0, y1, y2, y3, y4, y5] 107)).alloc (.cells #[t0, t1, t2] 105)).alloc (.cells #[.bool false, .slice none 0 0, .slice none 0 0, .bool false, .slice none 0 0, .slice none 0 0] 107)) w.heap.size x0 x1 x2 x3 x4 x5 y0 y1 y2 y3 y4 y5 t0 t1 t2 :=
  ⟨(bx3_a w _ _ _ _).later (below_alloc _ _), (bx3_b w _ _ _ _).later (below_alloc _ _), (bx3_c w _ _ _ _).later (below_alloc _ _), by
    have := BxAt.new (((w.alloc (.cells #[x0, x1, x2, x3, x4, x5] 107)).alloc (.cells #[y0, y1, y2, y3, y4, y5] 107)).alloc (.cells #[t0, t1, t2] 105)) z6 107
    simpa using this⟩
set_option maxRecDepth 100000 in
set_option maxHeartbeats 6400000 in
theorem Toward_any (u v r : Value) (pX pY qX qY t : Rat) (w : World) (okX : TowOk t pX qX) (okY : TowOk t pY qY) (hu : Spv w u pX pY) (hv : Spv w v qX qY) (hr : Frv w r t) :
    Calls Try.prog 65 #[u, v, r] w (SpPost (pX + t * (qX - pX)) (pY + t * (qY - pY)) w) := by
  obtain ⟨b1, p1, n1, c1, p2, n2, c2, b2, p3, n3, c3, p4, n4, c4, rfl, f1, f2⟩ := hu
  obtain ⟨b3, p5, n5, c5, p6, n6, c6, b4, p7, n7, c7, p8, n8, c8, rfl, f3, f4⟩ := hv
  obtain ⟨b5, p9, n9, c9, p0, n0, c0, rfl, f5⟩ := hr
  have OX := Lib.hid okX
  have OY := Lib.hid okY
  have O1 : Hid (AddOk qX pX) := Lib.hid OX.out.1
  have O2 : Hid (MulOk t (qX - pX)) := Lib.hid OX.out.2.1
  have O3 : Hid (AddOk pX (t * (qX - pX))) := Lib.hid OX.out.2.2
  have O4 : Hid (AddOk qY pY) := Lib.hid OY.out.1
  have O5 : Hid (MulOk t (qY - pY)) := Lib.hid OY.out.2.1
  have O6 : Hid (AddOk pY (t * (qY - pY))) := Lib.hid OY.out.2.2
  clear OX OY okX okY
  obtain ⟨w0, hw0⟩ : ∃ w0, (((w.alloc (.cells #[.bool b1, .slice p1 n1 c1, .slice p2 n2 c2, .bool b2, .slice p3 n3 c3, .slice p4 n4 c4] 107)).alloc (.cells #[.bool b3, .slice p5 n5 c5, .slice p6 n6 c6, .bool b4, .slice p7 n7 c7, .slice p8 n8 c8] 107)).alloc (.cells #[.bool b5, .slice p9 n9 c9, .slice p0 n0 c0] 105)).alloc (.cells #[.bool false, .slice none 0 0, .slice none 0 0, .bool false, .slice none 0 0, .slice none 0 0] 107) = w0 := ⟨_, rfl⟩
  have F0 : Hid (TSt w0 w.heap.size (.bool b1) (.slice p1 n1 c1) (.slice p2 n2 c2) (.bool b2) (.slice p3 n3 c3) (.slice p4 n4 c4) (.bool b3) (.slice p5 n5 c5) (.slice p6 n6 c6) (.bool b4) (.slice p7 n7 c7) (.slice p8 n8 c8) (.bool b5) (.slice p9 n9 c9) (.slice p0 n0 c0)) := Lib.hid (by rw [← hw0]; exact TSt.new w _ _ _ _ _ _ _ _ _ _ _ _ _ _ _)
  have B0 : Hid (Below w.heap.size w w0) := Lib.hid (by rw [← hw0]; exact bel4 _ _ _ _ _)
  have Q1 : Hid (Frp w0 b1 (.slice p1 n1 c1) (.slice p2 n2 c2) pX) := Lib.hid (f1.later B0.out)
  have Q2 : Hid (Frp w0 b2 (.slice p3 n3 c3) (.slice p4 n4 c4) pY) := Lib.hid (f2.later B0.out)
  have Q3 : Hid (Frp w0 b3 (.slice p5 n5 c5) (.slice p6 n6 c6) qX) := Lib.hid (f3.later B0.out)
  have Q4 : Hid (Frp w0 b4 (.slice p7 n7 c7) (.slice p8 n8 c8) qY) := Lib.hid (f4.later B0.out)
  have Q5 : Hid (Frp w0 b5 (.slice p9 n9 c9) (.slice p0 n0 c0) t) := Lib.hid (f5.later B0.out)
  clear f1 f2 f3 f4 f5
  obtain ⟨i0, i1, i2, i3, i4, i5, i6, i7, i8, i9, j0, j1, j2, j3, j4⟩ := F0.out.cells
  go_enter Try.func65, Try.ntmps65
  go_wp2_with fail
  clear hw0
  have K := F0.out
  have k : Below w0.heap.size w0 w0 := Below.refl _ _
  go_region_held3 (fun w' => w'.cell? ⟨w.heap.size, 0, none⟩ = some (.bool b1) ∧ w'.cell? ⟨w.heap.size, 1, none⟩ = some (.slice p1 n1 c1) ∧ w'.cell? ⟨w.heap.size, 2, none⟩ = some (.slice p2 n2 c2) ∧ w'.cell? ⟨w.heap.size, 3, none⟩ = some (.bool b2) ∧ w'.cell? ⟨w.heap.size, 4, none⟩ = some (.slice p3 n3 c3) ∧ w'.cell? ⟨w.heap.size, 5, none⟩ = some (.slice p4 n4 c4) ∧ w'.cell? ⟨w.heap.size + 1, 0, none⟩ = some (.bool b3) ∧ w'.cell? ⟨w.heap.size + 1, 1, none⟩ = some (.slice p5 n5 c5) ∧ w'.cell? ⟨w.heap.size + 1, 2, none⟩ = some (.slice p6 n6 c6) ∧ w'.cell? ⟨w.heap.size + 1, 3, none⟩ = some (.bool b4) ∧ w'.cell? ⟨w.heap.size + 1, 4, none⟩ = some (.slice p7 n7 c7) ∧ w'.cell? ⟨w.heap.size + 1, 5, none⟩ = some (.slice p8 n8 c8) ∧ w'.cell? ⟨w.heap.size + 1 + 1, 0, none⟩ = some (.bool b5) ∧ w'.cell? ⟨w.heap.size + 1 + 1, 1, none⟩ = some (.slice p9 n9 c9) ∧ w'.cell? ⟨w.heap.size + 1 + 1, 2, none⟩ = some (.slice p0 n0 c0))
    (first | with_reducible exact K.cells | with_reducible exact K.drew.cells | with_reducible exact K.far _ _ _ _ _ _)
    (first
      | (go_at_call 80; (with_reducible refine (FSub_any b3 _ _ b1 _ _ qX pX _ O1.out Q3.out.drew Q1.out.drew).mono ?_); rintro e v1 ⟨⟨d1, s1, e1, rfl, P1⟩, hb⟩; have k : Below w0.heap.size w0 v1 := bel_drew hb; have K := F0.out.later k)
      | (go_at_call 79; (with_reducible refine (FMul_any b5 _ _ d1 s1 e1 t (qX - pX) _ O2.out (Q5.out.later k) P1).mono ?_); rintro e v2 ⟨⟨d2, s2, e2, rfl, P2⟩, hb⟩; have k := bthen k hb; have K := F0.out.later k)
      | (go_at_call 68; (with_reducible refine (FAdd_any b1 _ _ d2 s2 e2 pX (t * (qX - pX)) _ O3.out (Q1.out.later k) P2).mono ?_); rintro e v3 ⟨⟨d3, s3, e3, rfl, P3⟩, hb⟩; obtain ⟨⟨g1, l1, a1, rfl⟩, g2, l2, a2, rfl⟩ := P3.forms; have k := bthen k hb; have K := F0.out.later k)
      | (go_at_call 80; (with_reducible refine (FSub_any b4 _ _ b2 _ _ qY pY _ O4.out (Q4.out.later k) (Q2.out.later k)).mono ?_); rintro e v4 ⟨⟨d4, s4, e4, rfl, P4⟩, hb⟩; have P3 := P3.later hb; have k := bthen k hb; have K := F0.out.later k)
      | (go_at_call 79; (with_reducible refine (FMul_any b5 _ _ d4 s4 e4 t (qY - pY) _ O5.out (Q5.out.later k) P4).mono ?_); rintro e v5 ⟨⟨d5, s5, e5, rfl, P5⟩, hb⟩; have P3 := P3.later hb; have k := bthen k hb; have K := F0.out.later k)
      | (go_at_call 68; (with_reducible refine (FAdd_any b2 _ _ d5 s5 e5 pY (t * (qY - pY)) _ O6.out (Q2.out.later k) P5).mono ?_); rintro e v6 ⟨⟨d6, s6, e6, rfl, P6⟩, hb⟩; obtain ⟨⟨g3, l3, a3, rfl⟩, g4, l4, a4, rfl⟩ := P6.forms; have P3 := P3.later hb; have k := bthen k hb; have K := F0.out.later k; have R := K.res; obtain ⟨r0, r1, r2, r3, r4, r5, rf⟩ := res6 R))
  all_goals go_wp2_with fail
  refine bodyPost_ret (v := .agg #[.bool d3, .slice g1 l1 a1, .slice g2 l2 a2, .bool d6, .slice g3 l3 a3, .slice g4 l4 a4]) ?_ rfl ⟨⟨_, rfl, d3, g1, l1, a1, g2, l2, a2, d6, g3, l3, a3, g4, l4, a4, rfl, P3.store6 _ _ _ _ _ _ R, P6.store6 _ _ _ _ _ _ R⟩, below_store6 (bthen B0.out k) (by omega) _ _ _ _ _ _⟩
  clear K k R P3 P6
  simp [results, Try.results65, go_sem, r0, r1, r2, r3, r4, r5]
end Go.Proofs.Ythglgempbdaikaa
namespace Go.Proofs.Ythglgempbdaikaa
open Go.RowKit

theorem Try.info107 : (Try.prog.info? 107).map (fun i => (i.zero, i.size, i.bytes)) = some (some (.agg #[.bool false, .slice none 0 0, .slice none 0 0, .bool false, .slice none 0 0, .slice none 0 0]), 6, 112) := by kernel_rfl
theorem Try.underlying100 : Try.prog.underlying 100 = some (.slice 107) := by kernel_rfl
theorem SpCells.congr {c c' : Nat → Option Value} {w : World} {p q : Rat} (h : SpCells c w p q) (he : ∀ i, i < 6 → c' i = c i) : SpCells c' w p q := by
  obtain ⟨b, p1, n1, c1, p2, n2, c2, d, p3, n3, c3, p4, n4, c4, ⟨h0, h1, h2, h3, h4, h5⟩, f1, f2⟩ := h
  exact ⟨b, p1, n1, c1, p2, n2, c2, d, p3, n3, c3, p4, n4, c4, ⟨(he 0 (by omega)).trans h0, (he 1 (by omega)).trans h1, (he 2 (by omega)).trans h2, (he 3 (by omega)).trans h3, (he 4 (by omega)).trans h4, (he 5 (by omega)).trans h5⟩, f1, f2⟩
theorem SpCells.congr' {c c' : Nat → Option Value} {w : World} {p q : Rat} (h : SpCells c w p q) (he : ∀ i u, c i = some u → c' i = some u) : SpCells c' w p q := by
  obtain ⟨b, p1, n1, c1, p2, n2, c2, d, p3, n3, c3, p4, n4, c4, ⟨h0, h1, h2, h3, h4, h5⟩, f1, f2⟩ := h
  exact ⟨b, p1, n1, c1, p2, n2, c2, d, p3, n3, c3, p4, n4, c4, ⟨he _ _ h0, he _ _ h1, he _ _ h2, he _ _ h3, he _ _ h4, he _ _ h5⟩, f1, f2⟩
theorem Frp.grown {w w' : World} {b : Bool} {s d u : Value} {q : Rat} (h : Frp w b s d q) (hg : w.grownBy w' u.ownBlock) (hn : NoInt w u) : Frp w' b s d q :=
  ⟨⟨h.1.1, h.1.2.1.grown hg hn, h.1.2.2⟩, h.2.1.grown hg hn, h.2.2⟩
theorem SpCells.grown {c : Nat → Option Value} {w w' : World} {u : Value} {p q : Rat} (h : SpCells c w p q) (hg : w.grownBy w' u.ownBlock) (hn : NoInt w u) : SpCells c w' p q := by
  obtain ⟨b, p1, n1, c1, p2, n2, c2, d, p3, n3, c3, p4, n4, c4, hc, f1, f2⟩ := h
  exact ⟨b, p1, n1, c1, p2, n2, c2, d, p3, n3, c3, p4, n4, c4, hc, f1.grown hg hn, f2.grown hg hn⟩
theorem SpCells.later {c : Nat → Option Value} {w w' : World} {p q : Rat} (h : SpCells c w p q) (hb : Below w.heap.size w w') : SpCells c w' p q := by
  obtain ⟨b, p1, n1, c1, p2, n2, c2, d, p3, n3, c3, p4, n4, c4, hc, f1, f2⟩ := h
  exact ⟨b, p1, n1, c1, p2, n2, c2, d, p3, n3, c3, p4, n4, c4, hc, f1.later hb, f2.later hb⟩
/-- n spots in cells -/
def SpAt (w : World) (g off n : Nat) (X Y : Nat → Rat) : Prop := ∀ j, j < n → SpCells (fun i => w.cell? ⟨g, off + j * 6 + i, none⟩) w (X j) (Y j)
theorem SpAt.later {w w' : World} {g off n : Nat} {X Y : Nat → Rat} (h : SpAt w g off n X Y) (hb : Below w.heap.size w w') : SpAt w' g off n X Y := by
  intro j hj
  obtain ⟨b, p1, n1, c1, p2, n2, c2, d, p3, n3, c3, p4, n4, c4, ⟨h0, h1, h2, h3, h4, h5⟩, f1, f2⟩ := h j hj
  exact ⟨b, p1, n1, c1, p2, n2, c2, d, p3, n3, c3, p4, n4, c4, ⟨cell_later hb h0, cell_later hb h1, cell_later hb h2, cell_later hb h3, cell_later hb h4, cell_later hb h5⟩, f1.later hb, f2.later hb⟩
theorem SpAt.get {w : World} {g off n : Nat} {X Y : Nat → Rat} (h : SpAt w g off n X Y) (j : Nat) (hj : j < n) : ∃ b p1 n1 c1 p2 n2 c2 d p3 n3 c3 p4 n4 c4,
    (w.cell? ⟨g, off + j * 6, none⟩ = some (.bool b) ∧ w.cell? ⟨g, off + j * 6 + 1, none⟩ = some (.slice p1 n1 c1) ∧ w.cell? ⟨g, off + j * 6 + 2, none⟩ = some (.slice p2 n2 c2) ∧ w.cell? ⟨g, off + j * 6 + 3, none⟩ = some (.bool d) ∧ w.cell? ⟨g, off + j * 6 + 4, none⟩ = some (.slice p3 n3 c3) ∧ w.cell? ⟨g, off + j * 6 + 5, none⟩ = some (.slice p4 n4 c4)) ∧
    Spv w (.agg #[.bool b, .slice p1 n1 c1, .slice p2 n2 c2, .bool d, .slice p3 n3 c3, .slice p4 n4 c4]) (X j) (Y j) := by
  obtain ⟨b, p1, n1, c1, p2, n2, c2, d, p3, n3, c3, p4, n4, c4, hc, f1, f2⟩ := h j hj
  exact ⟨b, p1, n1, c1, p2, n2, c2, d, p3, n3, c3, p4, n4, c4, hc, b, p1, n1, c1, p2, n2, c2, d, p3, n3, c3, p4, n4, c4, rfl, f1, f2⟩
/-- a slice of n spots, at least one -/
def Sps (w : World) (v : Value) (n : Nat) (X Y : Nat → Rat) : Prop := ∃ g off cap, v = .slice (some ⟨g, off, none⟩) n cap ∧ SpAt w g off n X Y
theorem Sps.later {w w' : World} {v : Value} {n : Nat} {X Y : Nat → Rat} (h : Sps w v n X Y) (hb : Below w.heap.size w w') : Sps w' v n X Y := by
  obtain ⟨g, off, cap, hv, hp⟩ := h
  exact ⟨g, off, cap, hv, hp.later hb⟩
/-- a row of n spots of ours, in a block without numbers -/
def NRow (w : World) (B : Nat) (v : Value) (n : Nat) (X Y : Nat → Rat) : Prop := ∃ cs, w.ownsRow B 107 6 v n cs ∧ (∀ j, j < n → SpCells (fun i => cs[j * 6 + i]?) w (X j) (Y j)) ∧ NoInt w v
theorem NRow.nil (w : World) (B : Nat) (X Y : Nat → Rat) : NRow w B (.slice none 0 0) 0 X Y := ⟨[], World.ownsRow_nil _ _ _ _, fun j hj => by omega, NoInt.nil w⟩
theorem NRow.later {w w' : World} {B : Nat} {v : Value} {n : Nat} {X Y : Nat → Rat} (h : NRow w B v n X Y) (hb : Below w.heap.size w w') : NRow w' B v n X Y := by
  obtain ⟨cs, ho, hs, hn⟩ := h
  refine ⟨cs, own_later ho hb, fun j hj => (hs j hj).later hb, fun g hg j u hu => ?_⟩
  have hlt := (ho.lt g hg).2
  rw [hb.cell (p := ⟨g, j, none⟩) hlt] at hu
  exact hn g hg j u hu
theorem NRow.push {w w' : World} {B : Nat} {v v' : Value} {n : Nat} {X Y : Nat → Rat} {cs : List Value} {b d : Bool} {p1 p2 p3 p4 : Option Addr} {n1 n2 n3 n4 c1 c2 c3 c4 : Nat} (ho : w.ownsRow B 107 6 v n cs) (hs : ∀ j, j < n → SpCells (fun i => cs[j * 6 + i]?) w (X j) (Y j)) (hn : NoInt w v)
    (ho' : w'.ownsRow B 107 6 v' (n + 1) (cs ++ [.bool b, .slice p1 n1 c1, .slice p2 n2 c2, .bool d, .slice p3 n3 c3, .slice p4 n4 c4])) (hg : w.grownBy w' v.ownBlock) (hn' : NoInt w' v')
    (h1 : Frp w b (.slice p1 n1 c1) (.slice p2 n2 c2) (X n)) (h2 : Frp w d (.slice p3 n3 c3) (.slice p4 n4 c4) (Y n)) : NRow w' B v' (n + 1) X Y := by
  refine ⟨_, ho', fun j hj => ?_, hn'⟩
  have hl := ho.1
  by_cases e : j = n
  · subst e
    refine ⟨b, p1, n1, c1, p2, n2, c2, d, p3, n3, c3, p4, n4, c4, ⟨?_, ?_, ?_, ?_, ?_, ?_⟩, h1.grown hg hn, h2.grown hg hn⟩
    all_goals (show (_ ++ _)[_]? = _; rw [List.getElem?_append_right (by omega), hl]; simp)
  · refine ((hs j (by omega)).grown hg hn).congr fun i hi => ?_
    show (_ ++ _)[_]? = _
    rw [List.getElem?_append_left (by omega)]
theorem NRow.sps {w : World} {B : Nat} {v : Value} {n : Nat} {X Y : Nat → Rat} (h : NRow w B v n X Y) (h0 : 0 < n) : Sps w v n X Y := by
  obtain ⟨cs, ho, hs, hn⟩ := h
  rcases ho.2 with ⟨hv, h0⟩ | ⟨g, cap, cur, hv, hg, hh, _, _, _, htake⟩
  · omega
  · refine ⟨g, 0, cap, hv, fun j hj => (hs j hj).congr' ?_⟩
    intro i u hu
    have hc := ho.cells (g := g) (by rw [hv]; rfl) (j * 6 + i) u hu
    have hadd : ∀ i, (⟨g, 0, none⟩ : Addr).add i = ⟨g, 0 + i, none⟩ := by intro i; unfold Addr.add; split <;> simp_all
    rw [hadd] at hc
    rw [Nat.add_assoc]
    exact hc
def lenOf : Value → Nat | .slice _ n _ => n | _ => 0
end Go.Proofs.Ythglgempbdaikaa
namespace Go.Proofs.Ythglgempbdaikaa
open Go.RowKit

theorem ni6 {b d : Bool} {p1 p2 p3 p4 : Option Addr} {n1 n2 n3 n4 c1 c2 c3 c4 : Nat} : ∀ u ∈ [Value.bool b, .slice p1 n1 c1, .slice p2 n2 c2, .bool d, .slice p3 n3 c3, .slice p4 n4 c4], noI u := by
  intro u hu kk z
  simp only [List.mem_cons, List.not_mem_nil, or_false] at hu
  rcases hu with rfl | rfl | rfl | rfl | rfl | rfl <;> intro h <;> cases h
theorem Spv.drew {w : World} {v : Value} {p q : Rat} (h : Spv w v p q) : Spv w.drew v p q := h
theorem Frv.drew {w : World} {v : Value} {q : Rat} (h : Frv w v q) : Frv w.drew v q := h
/-- what a round of point reads: two spots and a fraction, all below B -/
def Cst (B : Nat) (W : World) (A g o1 o2 : Nat) (x0 x1 x2 x3 x4 x5 y0 y1 y2 y3 y4 y5 t0 t1 t2 : Value) : Prop := A < B ∧ g < B ∧ B ≤ W.heap.size ∧
  W.cell? ⟨g, o1, none⟩ = some x0 ∧ W.cell? ⟨g, o1 + 1, none⟩ = some x1 ∧ W.cell? ⟨g, o1 + 2, none⟩ = some x2 ∧ W.cell? ⟨g, o1 + 3, none⟩ = some x3 ∧ W.cell? ⟨g, o1 + 4, none⟩ = some x4 ∧ W.cell? ⟨g, o1 + 5, none⟩ = some x5 ∧
  W.cell? ⟨g, o2, none⟩ = some y0 ∧ W.cell? ⟨g, o2 + 1, none⟩ = some y1 ∧ W.cell? ⟨g, o2 + 2, none⟩ = some y2 ∧ W.cell? ⟨g, o2 + 3, none⟩ = some y3 ∧ W.cell? ⟨g, o2 + 4, none⟩ = some y4 ∧ W.cell? ⟨g, o2 + 5, none⟩ = some y5 ∧
  W.cell? ⟨A, 0, none⟩ = some t0 ∧ W.cell? ⟨A, 1, none⟩ = some t1 ∧ W.cell? ⟨A, 2, none⟩ = some t2
section
variable {B : Nat} {W W1 : World} {A g o1 o2 : Nat} {x0 x1 x2 x3 x4 x5 y0 y1 y2 y3 y4 y5 t0 t1 t2 : Value}
theorem Cst.cells (h : Cst B W A g o1 o2 x0 x1 x2 x3 x4 x5 y0 y1 y2 y3 y4 y5 t0 t1 t2) :
  W.cell? ⟨g, o1, none⟩ = some x0 ∧ W.cell? ⟨g, o1 + 1, none⟩ = some x1 ∧ W.cell? ⟨g, o1 + 2, none⟩ = some x2 ∧ W.cell? ⟨g, o1 + 3, none⟩ = some x3 ∧ W.cell? ⟨g, o1 + 4, none⟩ = some x4 ∧ W.cell? ⟨g, o1 + 5, none⟩ = some x5 ∧
  W.cell? ⟨g, o2, none⟩ = some y0 ∧ W.cell? ⟨g, o2 + 1, none⟩ = some y1 ∧ W.cell? ⟨g, o2 + 2, none⟩ = some y2 ∧ W.cell? ⟨g, o2 + 3, none⟩ = some y3 ∧ W.cell? ⟨g, o2 + 4, none⟩ = some y4 ∧ W.cell? ⟨g, o2 + 5, none⟩ = some y5 ∧
  W.cell? ⟨A, 0, none⟩ = some t0 ∧ W.cell? ⟨A, 1, none⟩ = some t1 ∧ W.cell? ⟨A, 2, none⟩ = some t2 := h.2.2.2
theorem Cst.drew (h : Cst B W A g o1 o2 x0 x1 x2 x3 x4 x5 y0 y1 y2 y3 y4 y5 t0 t1 t2) : Cst B W.drew A g o1 o2 x0 x1 x2 x3 x4 x5 y0 y1 y2 y3 y4 y5 t0 t1 t2 := h
theorem Cst.later (h : Cst B W A g o1 o2 x0 x1 x2 x3 x4 x5 y0 y1 y2 y3 y4 y5 t0 t1 t2) (hb : Below B W W1) : Cst B W1 A g o1 o2 x0 x1 x2 x3 x4 x5 y0 y1 y2 y3 y4 y5 t0 t1 t2 := by
  obtain ⟨hA, hg, hB, h0, h1, h2, h3, h4, h5, h6, h7, h8, h9, h10, h11, h12, h13, h14⟩ := h
  have e : ∀ a i u, a < B → W.cell? ⟨a, i, none⟩ = some u → W1.cell? ⟨a, i, none⟩ = some u := fun a i u ha hu => (hb.cell (p := ⟨a, i, none⟩) ha).trans hu
  exact ⟨hA, hg, Nat.le_trans hB hb.size, e _ _ _ hg h0, e _ _ _ hg h1, e _ _ _ hg h2, e _ _ _ hg h3, e _ _ _ hg h4, e _ _ _ hg h5, e _ _ _ hg h6, e _ _ _ hg h7, e _ _ _ hg h8, e _ _ _ hg h9, e _ _ _ hg h10, e _ _ _ hg h11, e _ _ _ hA h12, e _ _ _ hA h13, e _ _ _ hA h14⟩
theorem Cst.alloc (h : Cst B W A g o1 o2 x0 x1 x2 x3 x4 x5 y0 y1 y2 y3 y4 y5 t0 t1 t2) (o : Obj) : Cst B (W.alloc o) A g o1 o2 x0 x1 x2 x3 x4 x5 y0 y1 y2 y3 y4 y5 t0 t1 t2 := h.later ((Below.refl _ _).alloc h.2.2.1 o)
end
set_option maxRecDepth 100000 in
set_option maxHeartbeats 6400000 in
theorem point_gen (v rv : Value) (m : Nat) (t : Rat) (LX LY : Nat → Nat → Rat) (w : World) (hm0 : 1 ≤ m) (hm4 : m ≤ 4) (okX : ∀ r j, r + (j + 1) < m → TowOk t (LX r j) (LX r (j + 1))) (okY : ∀ r j, r + (j + 1) < m → TowOk t (LY r j) (LY r (j + 1)))
    (stX : ∀ r j, LX r j + t * (LX r (j + 1) - LX r j) = LX (r + 1) j) (stY : ∀ r j, LY r j + t * (LY r (j + 1) - LY r j) = LY (r + 1) j)
    (hs : Sps w v m (LX 0) (LY 0)) (hr : Frv w rv t) :
    Calls Try.prog 52 #[v, rv] w (SpPost (LX (m - 1) 0) (LY (m - 1) 0) w) := by
  obtain ⟨i0, hi, hz0, hz1, hz2⟩ := info_parts Try.info107
  obtain ⟨b5, p9, n9, c9, p0, n0, c0, rfl, f5⟩ := hr
  have OX := Lib.hid okX
  have OY := Lib.hid okY
  have SX := Lib.hid stX
  have SY := Lib.hid stY
  clear okX okY stX stY
  obtain ⟨w0, hw0⟩ : ∃ w0, (w.alloc (.cells #[.bool b5, .slice p9 n9 c9, .slice p0 n0 c0] 105)).alloc (.cells #[.bool false, .slice none 0 0, .slice none 0 0, .bool false, .slice none 0 0, .slice none 0 0] 107) = w0 := ⟨_, rfl⟩
  have T0 : Hid (BxAt w0 w.heap.size [.bool b5, .slice p9 n9 c9, .slice p0 n0 c0]) := Lib.hid (by rw [← hw0]; exact bx_a w _ _ _)
  have Z0 : Hid (BxAt w0 (w.heap.size + 1) z6) := Lib.hid (by rw [← hw0]; exact bx_b w _ _ _)
  have B0 : Hid (Below w.heap.size w w0) := Lib.hid (by rw [← hw0]; exact bel2 _ _ _)
  have Q5 : Hid (Frp w0 b5 (.slice p9 n9 c9) (.slice p0 n0 c0) t) := Lib.hid (f5.later B0.out)
  have S0 : Hid (Sps w0 v m (LX 0) (LY 0)) := Lib.hid (hs.later B0.out)
  clear hs f5
  go_enter Try.func52, Try.ntmps52
  go_wp2_with fail
  clear hw0
  go_loopw [0] (fun l wr => ∃ r : Nat, r + 1 ≤ m ∧ Sps wr l (m - r) (LX r) (LY r) ∧ Below w0.heap.size w0 wr) (fun l _ => lenOf l)
  case atStart => exact ⟨0, by omega, S0.out, Below.refl _ _⟩
  case round =>
    obtain ⟨r, hr, ⟨g, off, cap, rfl, hp⟩, hb⟩ := hrel
    obtain ⟨w1, rfl⟩ : ∃ w1, w1 = wr := ⟨_, rfl⟩
    obtain ⟨n, hn⟩ : ∃ n, n = m - r := ⟨_, rfl⟩
    rw [← hn] at hp ⊢
    have N := Lib.hid hn
    clear hn
    have hn1 : 1 ≤ n := by have := N.out; omega
    have hn4 : n ≤ 4 := by have := N.out; omega
    have hnm : r + n = m := by have := N.out; omega
    have P := Lib.hid hp
    have B1 := Lib.hid hb
    have M := Lib.hid hnm
    clear hp hb hnm
    by_cases h2 : 1 < n
    · go_wp2_with fail
      have hdt : decide ((1 : Int) < (n : Int)) = true := decide_eq_true (by omega)
      simp only [hdt]
      go_loopw [5, 6] (fun v i wz => ∃ j : Nat, j + 1 ≤ n ∧ i = .int .i64 j ∧ NRow wz w1.heap.size v j (LX (r + 1)) (LY (r + 1)) ∧ Below w1.heap.size w1 wz) (fun _ i _ => n - (intOf i).toNat)
      case atStart => exact ⟨0, by omega, rfl, NRow.nil _ _ _ _, Below.refl _ _⟩
      case round =>
        obtain ⟨j, hj, rfl, hrow, hbz⟩ := hrel
        by_cases hlt : j + 1 < n
        · obtain ⟨b1, p1, n1, c1, p2, n2, c2, b2, p3, n3, c3, p4, n4, c4, cx, sp1⟩ := (P.out.later hbz).get j (by omega)
          obtain ⟨b3, p5, n5, c5, p6, n6, c6, b4, p7, n7, c7, p8, n8, c8, cy, sp2⟩ := (P.out.later hbz).get (j + 1) hlt
          have BZ := Lib.hid hbz
          have tb := T0.out.later (bthen B1.out hbz)
          have Q6 : Hid (Frv wr (.agg #[.bool b5, .slice p9 n9 c9, .slice p0 n0 c0]) t) := Lib.hid ⟨_, _, _, _, _, _, _, rfl, Q5.out.later (bthen B1.out hbz)⟩
          have S1 := Lib.hid sp1
          have S2 := Lib.hid sp2
          have RW := Lib.hid hrow
          have zA : w.heap.size < w1.heap.size := Nat.lt_of_lt_of_le T0.out.1 B1.out.size
          have zg : g < w1.heap.size := by
            have := P.out 0 (by omega)
            obtain ⟨_, _, _, _, _, _, _, _, _, _, _, _, _, _, ⟨h0, _⟩, _⟩ := this
            exact World.block_lt_of_cell? w1 _ h0
          have C0 : Hid (Cst w1.heap.size wr w.heap.size g (off + j * 6) (off + (j + 1) * 6) (.bool b1) (.slice p1 n1 c1) (.slice p2 n2 c2) (.bool b2) (.slice p3 n3 c3) (.slice p4 n4 c4) (.bool b3) (.slice p5 n5 c5) (.slice p6 n6 c6) (.bool b4) (.slice p7 n7 c7) (.slice p8 n8 c8) (.bool b5) (.slice p9 n9 c9) (.slice p0 n0 c0)) :=
            Lib.hid ⟨zA, zg, BZ.out.size, cx.1, cx.2.1, cx.2.2.1, cx.2.2.2.1, cx.2.2.2.2.1, cx.2.2.2.2.2, cy.1, cy.2.1, cy.2.2.1, cy.2.2.2.1, cy.2.2.2.2.1, cy.2.2.2.2.2, tb.2.2 0 _ rfl, tb.2.2 1 _ rfl, tb.2.2 2 _ rfl⟩
          have OX1 : Hid (TowOk t (LX r j) (LX r (j + 1))) := Lib.hid (OX.out r j (by have := M.out; omega))
          have OY1 : Hid (TowOk t (LY r j) (LY r (j + 1))) := Lib.hid (OY.out r j (by have := M.out; omega))
          have hj0 : (0 : Int) ≤ (j : Int) := by omega
          have hj3 : (j : Int) < (n : Int) := by omega
          have hj4 : (j : Int) + 1 < (n : Int) := by omega
          have hj5 : (0 : Int) ≤ (j : Int) + 1 := by omega
          have hj6 : ((j : Int) + 1).toNat = j + 1 := by omega
          have hj7 : IntKind.i64.wrap ((j : Int) + 1) = (j : Int) + 1 := IntWalk.i64_in _ (by omega)
          clear hbz tb sp1 sp2 hrow cx cy
          have C := C0.out
          go_wp2_with fail
          go_region_held3 (fun w' => w'.cell? ⟨g, off + j * 6, none⟩ = some (.bool b1) ∧ w'.cell? ⟨g, off + j * 6 + 1, none⟩ = some (.slice p1 n1 c1) ∧ w'.cell? ⟨g, off + j * 6 + 2, none⟩ = some (.slice p2 n2 c2) ∧ w'.cell? ⟨g, off + j * 6 + 3, none⟩ = some (.bool b2) ∧ w'.cell? ⟨g, off + j * 6 + 4, none⟩ = some (.slice p3 n3 c3) ∧ w'.cell? ⟨g, off + j * 6 + 5, none⟩ = some (.slice p4 n4 c4) ∧ w'.cell? ⟨g, off + (j + 1) * 6, none⟩ = some (.bool b3) ∧ w'.cell? ⟨g, off + (j + 1) * 6 + 1, none⟩ = some (.slice p5 n5 c5) ∧ w'.cell? ⟨g, off + (j + 1) * 6 + 2, none⟩ = some (.slice p6 n6 c6) ∧ w'.cell? ⟨g, off + (j + 1) * 6 + 3, none⟩ = some (.bool b4) ∧ w'.cell? ⟨g, off + (j + 1) * 6 + 4, none⟩ = some (.slice p7 n7 c7) ∧ w'.cell? ⟨g, off + (j + 1) * 6 + 5, none⟩ = some (.slice p8 n8 c8) ∧ w'.cell? ⟨w.heap.size, 0, none⟩ = some (.bool b5) ∧ w'.cell? ⟨w.heap.size, 1, none⟩ = some (.slice p9 n9 c9) ∧ w'.cell? ⟨w.heap.size, 2, none⟩ = some (.slice p0 n0 c0))
            (first | with_reducible exact C.cells | with_reducible exact C.drew.cells | with_reducible exact (C.alloc _).cells)
            (first
              | (go_at_call 65; (with_reducible refine (Toward_any _ _ _ (LX r j) (LY r j) (LX r (j + 1)) (LY r (j + 1)) t wr.drew OX1.out OY1.out S1.out.drew S2.out.drew Q6.out.drew).mono ?_); rintro e v1 ⟨⟨u, rfl, d1, g1, l1, a1, g2, l2, a2, d2, g3, l3, a3, g4, l4, a4, rfl, f1, f2⟩, hb⟩; rw [SX.out] at f1; rw [SY.out] at f2; have k : Below wr.heap.size wr v1 := bel_drew hb; have R1 := RW.out.later k; have kB := k.mono BZ.out.size; have C := C0.out.later kB)
              | (obtain ⟨cs, ow, sp, ni⟩ := R1; refine step_ni (w0 := v1) rfl (.tmp 17) (.tmp 29) 100 rfl w1.heap.size 107 i0 (.agg #[.bool false, .slice none 0 0, .slice none 0 0, .bool false, .slice none 0 0, .slice none 0 0]) 6 112 [.bool d1, .slice g1 l1 a1, .slice g2 l2 a2, .bool d2, .slice g3 l3 a3, .slice g4 l4 a4] Try.underlying100 hi hz0 hz1 hz2 rfl rfl (by decide) _ _ _ rfl ow rfl (by simp [Value.oneCell']) (by unfold maxLen; omega) (by omega) (Nat.le_trans BZ.out.size k.size) ni ni6 ni6 ?_; intro g' cap' w5 ow5 hb5 gr5 ni5; have R5 := NRow.push ow sp ni ow5 gr5 ni5 f1 f2; have C := C.later hb5; have kB := kB.trans hb5))
          all_goals go_wp2_with fail
          go_roundw
          case rel => exact ⟨j + 1, by omega, by go_num, R5, BZ.out.trans kB⟩
          case measure => simp [intOf]; omega
        · have ej : j = n - 1 := by omega
          obtain ⟨ii, hii⟩ : ∃ ii : Int, ii = (j : Int) := ⟨_, rfl⟩
          rw [← hii]
          have hi1 : ¬ ii + 1 < (n : Int) := by omega
          have hi2 : 0 ≤ ii := by omega
          have hi3 : ii ≤ 100 := by omega
          rw [ej] at hrow
          have BZ := Lib.hid hbz
          obtain ⟨g', off', cap', rfl, hp'⟩ := hrow.sps (by omega)
          have E := Lib.hid (show Sps wr (.slice (some ⟨g', off', none⟩) (n - 1) cap') (m - (r + 1)) (LX (r + 1)) (LY (r + 1)) by
            have e : m - (r + 1) = n - 1 := by have := M.out; omega
            rw [e]
            exact ⟨g', off', cap', rfl, hp'⟩)
          have HR : Hid (r + 1 + 1 ≤ m) := Lib.hid (by have := M.out; omega)
          clear hii hbz hrow hp' ej hlt hj
          obtain ⟨n1, hn11⟩ : ∃ n1, n1 = n - 1 := ⟨_, rfl⟩
          rw [← hn11] at E ⊢
          have hn12 : n1 < n := by omega
          clear hn11
          go_wp2_with fail
          go_roundw
          case rel => exact ⟨r + 1, HR.out, E.out, bthen B1.out BZ.out⟩
          case measure => simp [lenOf]; omega
    · have en : n = 1 := by omega
      have hr1 : Hid (r = m - 1) := Lib.hid (by have := M.out; omega)
      subst en
      obtain ⟨b1, p1, n1, c1, p2, n2, c2, b2, p3, n3, c3, p4, n4, c4, ⟨x0, x1, x2, x3, x4, x5⟩, sp⟩ := P.out.get 0 (by omega)
      obtain ⟨_, _, _, _, _, _, _, _, _, _, _, _, _, _, hv, f1, f2⟩ := sp
      simp only [Value.agg.injEq, Array.mk.injEq, List.cons.injEq, Value.bool.injEq, Value.slice.injEq, and_true] at hv
      obtain ⟨rfl, ⟨rfl, rfl, rfl⟩, ⟨rfl, rfl, rfl⟩, rfl, ⟨rfl, rfl, rfl⟩, rfl, rfl, rfl⟩ := hv
      have Z1 := Z0.out.later B1.out
      obtain ⟨r0, r1, r2, r3, r4, r5, rf⟩ := res6 Z1
      simp only [Nat.zero_mul, Nat.add_zero] at x0 x1 x2 x3 x4 x5
      have R := Lib.hid Z1
      have F1 := Lib.hid f1
      have F2 := Lib.hid f2
      clear Z1 f1 f2
      go_wp2_with fail
      refine bodyPost_ret (v := .agg #[.bool b1, .slice p1 n1 c1, .slice p2 n2 c2, .bool b2, .slice p3 n3 c3, .slice p4 n4 c4]) ?_ rfl ⟨⟨_, rfl, b1, p1, n1, c1, p2, n2, c2, b2, p3, n3, c3, p4, n4, c4, rfl, ?_, ?_⟩, below_store6 (bthen B0.out B1.out) (by omega) _ _ _ _ _ _⟩
      · simp [results, Try.results52, go_sem, r0, r1, r2, r3, r4, r5]
      · rw [← hr1.out]; exact F1.out.store6 _ _ _ _ _ _ R.out
      · rw [← hr1.out]; exact F2.out.store6 _ _ _ _ _ _ R.out
end Go.Proofs.Ythglgempbdaikaa
namespace Go.Proofs.Ythglgempbdaikaa
open Go.RowKit

/-- a spot in a block -/
def C6 (W : World) (G : Nat) (x0 x1 x2 x3 x4 x5 : Value) : Prop := W.cell? ⟨G, 0, none⟩ = some x0 ∧ W.cell? ⟨G, 1, none⟩ = some x1 ∧ W.cell? ⟨G, 2, none⟩ = some x2 ∧ W.cell? ⟨G, 3, none⟩ = some x3 ∧ W.cell? ⟨G, 4, none⟩ = some x4 ∧ W.cell? ⟨G, 5, none⟩ = some x5
section
variable {W W1 : World} {G : Nat} {x0 x1 x2 x3 x4 x5 : Value}
theorem C6.cells (h : C6 W G x0 x1 x2 x3 x4 x5) : W.cell? ⟨G, 0, none⟩ = some x0 ∧ W.cell? ⟨G, 1, none⟩ = some x1 ∧ W.cell? ⟨G, 2, none⟩ = some x2 ∧ W.cell? ⟨G, 3, none⟩ = some x3 ∧ W.cell? ⟨G, 4, none⟩ = some x4 ∧ W.cell? ⟨G, 5, none⟩ = some x5 := h
theorem C6.drew (h : C6 W G x0 x1 x2 x3 x4 x5) : C6 W.drew G x0 x1 x2 x3 x4 x5 := h
theorem C6.later (h : C6 W G x0 x1 x2 x3 x4 x5) (hb : Below W.heap.size W W1) : C6 W1 G x0 x1 x2 x3 x4 x5 :=
  ⟨cell_later hb h.1, cell_later hb h.2.1, cell_later hb h.2.2.1, cell_later hb h.2.2.2.1, cell_later hb h.2.2.2.2.1, cell_later hb h.2.2.2.2.2⟩
theorem C6.alloc (h : C6 W G x0 x1 x2 x3 x4 x5) (o : Obj) : C6 (W.alloc o) G x0 x1 x2 x3 x4 x5 := h.later (below_alloc _ _)
theorem C6.grown (h : C6 W G x0 x1 x2 x3 x4 x5) {v : Value} (hg : W.grownBy W1 v.ownBlock) (hv : ∀ k, v.ownBlock = some k → k < G) : C6 W1 G x0 x1 x2 x3 x4 x5 := by
  have hne : some G ≠ v.ownBlock := fun e => by have := hv G e.symm; omega
  exact ⟨hg.cell h.1 hne, hg.cell h.2.1 hne, hg.cell h.2.2.1 hne, hg.cell h.2.2.2.1 hne, hg.cell h.2.2.2.2.1 hne, hg.cell h.2.2.2.2.2 hne⟩
end
set_option maxRecDepth 100000 in
set_option maxHeartbeats 6400000 in
theorem rcurve_any (g off m cap : Nat) (X Y : Nat → Int) (w : World) (hm : m = 3 ∨ m = 4) (h : PtAt w g off m X Y) :
    Calls Try.prog 38 #[.slice (some ⟨g, off, none⟩) m cap] w (CurvePost X Y m w) := by
  obtain ⟨i0, hi, hz0, hz1, hz2⟩ := info_parts Try.info107
  obtain ⟨i5, hi5, hy0, hy1, hy2⟩ := info_parts Try.info42
  have H := Lib.hid h
  clear h
  have hm0 : 3 ≤ m ∧ m ≤ 4 := by omega
  obtain ⟨hm1, hm2⟩ := hm0
  have HM := Lib.hid hm
  clear hm
  go_enter Try.func38, Try.ntmps38
  go_wp2_with fail
  refine (rpieces_any g off m cap X Y w (by omega) H.out).mono ?_
  rintro e w1 ⟨rfl, hb⟩
  cases hfit : fitsTo X Y m
  · have hz : piecesN X Y m = 0 := by unfold piecesN; rw [hfit]; rfl
    have HB := Lib.hid hb
    clear hb
    rw [hz]
    have HZ := Lib.hid hz
    clear hz
    go_wp2_with fail
    refine bodyPost_ret (v := .tuple #[.slice none 0 0, .int .i64 4]) ?_ rfl ⟨HB.out, Or.inl ⟨HZ.out, rfl⟩⟩
    simp [results, Try.results38, go_sem]
  · have hz : piecesN X Y m = pc (dTo X Y (m - 2)) := by unfold piecesN; rw [if_pos hfit]
    have hpl := pc_le (dTo X Y (m - 2))
    rw [← hz] at hpl
    obtain ⟨n, hn⟩ : ∃ n, n = piecesN X Y m := ⟨_, rfl⟩
    rw [← hn] at hpl ⊢
    obtain ⟨hn1, hn2⟩ := hpl
    have H1 := Lib.hid (H.out.later hb)
    have HB := Lib.hid hb
    clear hb H
    have HF := Lib.hid hfit
    clear hfit hz
    have HN := Lib.hid hn
    clear hn
    have hn3 : ¬ ((n : Int) = 0) := by omega
    go_wp2_with fail
    have hdb : ((n : Int) == 0) = false := by simp; omega
    simp only [hdb]
    clear hdb
    go_loopw [5, 6] (fun v i wr => ∃ j : Nat, j ≤ m ∧ i = .int .i64 j ∧ NRow wr w1.heap.size v j (fun j => (X j : Rat)) (fun j => (Y j : Rat)) ∧ Below w1.heap.size w1 wr) (fun _ i _ => m - (intOf i).toNat)
    case atStart => exact ⟨0, by omega, rfl, NRow.nil _ _ _ _, Below.refl _ _⟩
    case round =>
      obtain ⟨j, hj, rfl, hrow, hbz⟩ := hrel
      have BZ := Lib.hid hbz
      have RW := Lib.hid hrow
      clear hbz hrow
      by_cases hlt : j < m
      · obtain ⟨c0, c1⟩ := H1.out.later BZ.out j hlt
        obtain ⟨fx, fy⟩ := fits_iff (fitsTo_at (k := j) hlt HF.out)
        have AT := Lib.hid (At_any (X j) (Y j) wr fx fy)
        obtain ⟨x, hx⟩ : ∃ x, x = X j := ⟨_, rfl⟩
        obtain ⟨y, hy⟩ : ∃ y, y = Y j := ⟨_, rfl⟩
        obtain ⟨qx, hqx⟩ : ∃ q, q = (X j : Rat) := ⟨_, rfl⟩
        obtain ⟨qy, hqy⟩ : ∃ q, q = (Y j : Rat) := ⟨_, rfl⟩
        rw [← hqx, ← hqy, ← hx, ← hy] at AT
        rw [← hx] at c0
        rw [← hy] at c1
        have HX := Lib.hid (And.intro hqx hqy)
        have hj0 : (0 : Int) ≤ (j : Int) := by omega
        have hj3 : (j : Int) < (m : Int) := by omega
        clear hqx hqy hx hy fx fy
        go_wp2_with fail
        refine AT.out.mono ?_
        rintro e w2 ⟨⟨u, rfl, d1, g1, l1, a1, g2, l2, a2, d2, g3, l3, a3, g4, l4, a4, rfl, f1, f2⟩, hb⟩
        have R2 := RW.out.later hb
        obtain ⟨cs, ow, sp, ni⟩ := R2
        have B2 := Lib.hid (bthen BZ.out hb)
        have F1 := Lib.hid f1
        have F2 := Lib.hid f2
        have SP := Lib.hid sp
        have NI := Lib.hid ni
        clear hb f1 f2 sp ni c0 c1 AT
        go_wp2_with (at_builtin; go_loud (refine wpList_ni (w0 := w2) rfl (.tmp 22) (.tmp 28) 100 rfl w1.heap.size 107 i0 (.agg #[.bool false, .slice none 0 0, .slice none 0 0, .bool false, .slice none 0 0, .slice none 0 0]) 6 112 [.bool d1, .slice g1 l1 a1, .slice g2 l2 a2, .bool d2, .slice g3 l3 a3, .slice g4 l4 a4] Try.underlying100 hi hz0 hz1 hz2 rfl rfl (by decide) _ _ _ rfl ow rfl (by simp [Value.oneCell']) ?d1 ?d2 B2.out.size NI.out ni6 ni6 ?_))
        case d1 => unfold maxLen; omega
        case d2 => omega
        intro g' cap' w5 ow5 hb5 gr5 ni5
        have R5 := Lib.hid (NRow.push (X := fun j => (X j : Rat)) (Y := fun j => (Y j : Rat)) ow SP.out NI.out ow5 gr5 ni5 (by show Frp _ _ _ _ (X j : Rat); rw [← HX.out.1]; exact F1.out) (by show Frp _ _ _ _ (Y j : Rat); rw [← HX.out.2]; exact F2.out))
        have B5 := Lib.hid (B2.out.trans hb5)
        clear ow ow5 hb5 gr5 ni5
        go_wp2_with fail
        refine ⟨⟨j + 1, by omega, by go_num, R5.out, B5.out⟩, by (first | (simp [intOf]; done) | (simp [intOf]; omega) | (simp only [intOf]; omega))⟩
      · obtain rfl : j = m := by omega
        obtain ⟨sg, so, sc, rfl, hsp⟩ := RW.out.sps (by omega)
        have SS : Hid (Sps wr (.slice (some ⟨sg, so, none⟩) j sc) j (fun j => (X j : Rat)) (fun j => (Y j : Rat))) := Lib.hid ⟨sg, so, sc, rfl, hsp⟩
        obtain ⟨w2, rfl⟩ : ∃ w2, w2 = wr := ⟨_, rfl⟩
        have B2 := Lib.hid (bthen HB.out BZ.out)
        clear hsp RW BZ H1 HB hj hlt
        go_wp2_with fail
        go_loopw [7, 8] (fun v i wr => ∃ k q : Nat, q = k + 1 ∧ k ≤ n ∧ i = .int .i64 q ∧ CRel X Y j n w2 wr v k) (fun _ i _ => n + 1 - (intOf i).toNat)
        case atStart => exact ⟨0, 1, rfl, by omega, rfl, World.ownsRow_nil _ _ _ _, Below.refl _ _⟩
        case round =>
          obtain ⟨k, q, hq, hk, rfl, hrel⟩ := hrel
          have R := Lib.hid hrel
          have HK := Lib.hid (And.intro hq hk)
          have hq0 : 1 ≤ q := by omega
          clear hrel hq hk
          by_cases hlt : q ≤ n
          · have OD := Lib.hid (div_ok (k := q) (n := n) hlt ⟨by omega, hn2⟩)
            have DM := Lib.hid (div_mk q n)
            have XB : ∀ i, i < j → -8388607 ≤ X i ∧ X i ≤ 8388607 := fun i hi => (fits_iff (fitsTo_at (k := i) hi HF.out)).1
            have YB : ∀ i, i < j → -8388607 ≤ Y i ∧ Y i ≤ 8388607 := fun i hi => (fits_iff (fitsTo_at (k := i) hi HF.out)).2
            have PG : Hid (∀ (rv : Value) (W : World), Below w2.heap.size w2 W → Frv W rv (mkRat q n) → Calls Try.prog 52 #[.slice (some ⟨sg, so, none⟩) j sc, rv] W (SpPost (lev q n X (j - 1) 0) (lev q n Y (j - 1) 0) W)) := Lib.hid (fun rv W hW hr =>
              point_gen _ rv j (mkRat q n) (lev q n X) (lev q n Y) W (by omega) hm2 (fun r i h => lev_ok hlt ⟨by omega, hn2⟩ XB r i (by omega) h) (fun r i h => lev_ok hlt ⟨by omega, hn2⟩ YB r i (by omega) h) (fun r i => lev_succ q n X r i (by omega)) (fun r i => lev_succ q n Y r i (by omega))
                (by have e : lev q n X 0 = fun j => (X j : Rat) := funext (lev_zero q n X)
                    have e2 : lev q n Y 0 = fun j => (Y j : Rat) := funext (lev_zero q n Y)
                    rw [e, e2]
                    exact SS.out.later hW) hr)
            obtain ⟨nx1, nx2⟩ := lev_near (k := q) (n := n) HM.out hlt ⟨by omega, hn2⟩ XB
            obtain ⟨ny1, ny2⟩ := lev_near (k := q) (n := n) HM.out hlt ⟨by omega, hn2⟩ YB
            obtain ⟨qx, hqx⟩ : ∃ z, z = lev q n X (j - 1) 0 := ⟨_, rfl⟩
            obtain ⟨qy, hqy⟩ : ∃ z, z = lev q n Y (j - 1) 0 := ⟨_, rfl⟩
            rw [← hqx] at nx1 nx2
            rw [← hqy] at ny1 ny2
            rw [← hqx, ← hqy] at PG
            obtain ⟨zx, hzx⟩ : ∃ z, z = nearQ qx := ⟨_, rfl⟩
            obtain ⟨zy, hzy⟩ : ∃ z, z = nearQ qy := ⟨_, rfl⟩
            have NX : Hid (∀ b s d W, Frp W b s d qx → Calls Try.prog 53 #[.agg #[.bool b, s, d]] W (RetPost (.int .i64 zx) W)) := Lib.hid (fun b s d W h => by rw [hzx]; exact Near_any b s d qx W nx1 h)
            have NY : Hid (∀ b s d W, Frp W b s d qy → Calls Try.prog 53 #[.agg #[.bool b, s, d]] W (RetPost (.int .i64 zy) W)) := Lib.hid (fun b s d W h => by rw [hzy]; exact Near_any b s d qy W ny1 h)
            have HX : Hid (partN X j n q = zx) := Lib.hid (by rw [hzx, nx2])
            have HY : Hid (partN Y j n q = zy) := Lib.hid (by rw [hzy, ny2])
            have I1 : Hid ((-I63 ≤ (q : Int) ∧ (q : Int) < I63) ∧ (-I63 ≤ (n : Int) ∧ (n : Int) < I63)) := Lib.hid (by unfold I63; omega)
            clear XB YB hqx hqy nx1 nx2 ny1 ny2 hzx hzy
            go_wp2_with fail
            refine (FInt_any q wr I1.out.1.1 I1.out.1.2).mono ?_
            rintro e3 w3 ⟨⟨b3, s3, d3, rfl, h3⟩, hb3⟩
            have Q3 := Lib.hid h3
            have B3 := Lib.hid hb3
            clear h3 hb3
            go_wp2_with fail
            refine (FInt_any n w3 I1.out.2.1 I1.out.2.2).mono ?_
            rintro e4 w4 ⟨⟨b4, s4, d4, rfl, h4⟩, hb4⟩
            have Q4 := Lib.hid h4
            have Q3 := Lib.hid (Q3.out.later hb4)
            have B4 := Lib.hid (bthen B3.out hb4)
            clear h4 hb4 B3
            go_wp2_with fail
            refine (FDiv_any b3 s3 d3 b4 s4 d4 _ _ w4 OD.out Q3.out Q4.out).mono ?_
            rintro e5 w5 ⟨⟨b5, s5, d5, rfl, h5⟩, hb5⟩
            rw [DM.out] at h5
            obtain ⟨⟨p1, n1, c1, rfl⟩, p2, n2, c2, rfl⟩ := h5.forms
            have Q5 := Lib.hid h5
            have B5 := Lib.hid (bthen B4.out hb5)
            clear h5 hb5 B4 Q3 Q4
            go_wp2_with fail
            obtain ⟨w6, hw6⟩ : ∃ w6, w6 = w5.alloc (.cells #[.bool b5, .slice p1 n1 c1, .slice p2 n2 c2] 105) := ⟨_, rfl⟩
            rw [← hw6]
            have hb6 : Below w5.heap.size w5 w6 := by rw [hw6]; exact below_alloc _ _
            have B6 := Lib.hid (bthen B5.out hb6)
            have V6 : Hid (Frv w6 (.agg #[.bool b5, .slice p1 n1 c1, .slice p2 n2 c2]) (mkRat q n)) := Lib.hid ⟨_, _, _, _, _, _, _, rfl, Q5.out.later hb6⟩
            clear hw6 hb6 B5 Q5
            refine (PG.out _ w6 (bthen R.out.2 B6.out) V6.out).mono ?_
            rintro e6 w7 ⟨⟨u, rfl, d1, g1, l1, a1, g2, l2, a2, d2, g3, l3, a3, g4, l4, a4, rfl, f1, f2⟩, hb7⟩
            have B7 := Lib.hid (bthen B6.out hb7)
            have F1 := Lib.hid f1
            have F2 := Lib.hid f2
            clear f1 f2 hb7 B6 V6
            go_wp2_with fail
            obtain ⟨w8, hw8⟩ : ∃ w8, w8 = w7.alloc (.cells #[.bool d1, .slice g1 l1 a1, .slice g2 l2 a2, .bool d2, .slice g3 l3 a3, .slice g4 l4 a4] 107) := ⟨_, rfl⟩
            rw [← hw8]
            obtain ⟨G, hG⟩ : ∃ G, G = w7.heap.size := ⟨_, rfl⟩
            rw [← hG]
            have hb8 : Below w7.heap.size w7 w8 := by rw [hw8]; exact below_alloc _ _
            have B8 := Lib.hid (bthen B7.out hb8)
            have P1 := Lib.hid (F1.out.later hb8)
            have P2 := Lib.hid (F2.out.later hb8)
            have X8 : BxAt w8 G [.bool d1, .slice g1 l1 a1, .slice g2 l2 a2, .bool d2, .slice g3 l3 a3, .slice g4 l4 a4] := by rw [hw8, hG]; exact BxAt.new w7 _ _
            have C0 : Hid (C6 w8 G (.bool d1) (.slice g1 l1 a1) (.slice g2 l2 a2) (.bool d2) (.slice g3 l3 a3) (.slice g4 l4 a4)) := Lib.hid ⟨X8.2.2 0 _ rfl, X8.2.2 1 _ rfl, X8.2.2 2 _ rfl, X8.2.2 3 _ rfl, X8.2.2 4 _ rfl, X8.2.2 5 _ rfl⟩
            have RO := Lib.hid (own_later R.out.1 B8.out)
            have LT : Hid (∀ z, u7.ownBlock = some z → z < G) := Lib.hid (fun z hz => by have := (R.out.1.lt z hz).2; have := B7.out.size; omega)
            have BR := Lib.hid (R.out.2.trans (B8.out.mono R.out.2.size))
            have hk33 : k ≤ 33 := by have := HK.out; omega
            clear hw8 hG hb8 X8 F1 F2 B7
            have C := C0.out
            have k8 : Below w8.heap.size w8 w8 := Below.refl _ _
            go_region_held3 (fun w' => w'.cell? ⟨G, 0, none⟩ = some (.bool d1) ∧ w'.cell? ⟨G, 1, none⟩ = some (.slice g1 l1 a1) ∧ w'.cell? ⟨G, 2, none⟩ = some (.slice g2 l2 a2) ∧ w'.cell? ⟨G, 3, none⟩ = some (.bool d2) ∧ w'.cell? ⟨G, 4, none⟩ = some (.slice g3 l3 a3) ∧ w'.cell? ⟨G, 5, none⟩ = some (.slice g4 l4 a4))
              (first | with_reducible exact C.cells | with_reducible exact C.drew.cells | with_reducible exact (C.alloc _).cells)
              (first
                | (go_at_call 53; (with_reducible refine (NX.out d1 _ _ w8.drew P1.out.drew).mono ?_); rintro e v1 ⟨rfl, hb⟩; have k8 : Below w8.heap.size w8 v1 := bel_drew hb; have C := C0.out.later k8)
                | (go_at_call 53; (with_reducible refine (NY.out d2 _ _ _ (P2.out.later k8)).mono ?_); rintro e v2 ⟨rfl, hb⟩; have k8 := bthen k8 hb; have C := C0.out.later k8; have RO2 := own_later RO.out k8)
                | (refine step_app (w0 := v2) rfl (.tmp 46) (.tmp 54) 54 rfl w2.heap.size 42 i5 (.agg #[.int .i64 0, .int .i64 0]) 2 16 [.int .i64 zx, .int .i64 zy] Try.underlying54 hi5 hy0 hy1 hy2 rfl rfl (by decide) _ _ _ rfl RO2 rfl (by simp [Value.oneCell']) (by unfold maxLen; omega) (by omega) (Nat.le_trans BR.out.size k8.size) ?_; intro g' cap' w9 ow9 hb9 gr9; have C := C.grown gr9 LT.out))
            all_goals go_wp2_with fail
            have e1 : q = k + 1 := HK.out.1
            have S9 := Lib.hid (show CRel X Y j n w2 w9 (.slice (some ⟨g', 0, none⟩) (k + 1) cap') (k + 1) from ⟨by
              have h1 := HX.out
              have h2 := HY.out
              subst e1
              unfold ptsTo
              rw [h1, h2]
              exact ow9, (BR.out.trans (k8.mono BR.out.size)).trans hb9⟩)
            have E1 := Lib.hid e1
            clear e1
            go_roundw
            case rel => exact ⟨k + 1, q + 1, by have := E1.out; omega, by have := E1.out; omega, by go_num, S9.out⟩
            case measure => simp [intOf]; omega
          · have ek : k = n := by have := HK.out; omega
            subst ek
            go_wp2_with fail
            refine bodyPost_ret (v := .tuple #[u7, .int .i64 0]) ?_ rfl ?_
            · simp [results, Try.results38, go_sem]
            · refine ⟨B2.out.trans (R.out.2.mono B2.out.size), Or.inr ⟨HF.out, u7, rfl, ?_⟩⟩
              have e := HN.out
              rw [← e]
              exact (RdP.of_owns (by omega) R.out.1).low B2.out.size
end Go.Proofs.Ythglgempbdaikaa
