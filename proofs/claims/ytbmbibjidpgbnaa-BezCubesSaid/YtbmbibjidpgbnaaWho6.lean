/- Contracts of the reference's whole numbers: Div. -/
import Derived.Test.YtbmbibjidpgbnaaWho5
import Derived.Test.YtbmbibjidpgbnaaWho4
import Derived.Test.YtbmbibjidpgbnaaNum17
namespace Go.Proofs.Ytbmbibjidpgbnaa
open Go.RowKit

theorem bx4 (w : World) (b : Bool) (s : Value) (c : Bool) (t : Value) : ∃ w0, ((((w.alloc (.cells #[.bool b, s] 104)).alloc (.cells #[.bool c, t] 104)).alloc (.cells #[.bool false, .slice none 0 0] 104)).alloc (.cells #[.bool false, .slice none 0 0] 104)) = w0 ∧
    BxAt w0 w.heap.size [.bool b, s] ∧ BxAt w0 (w.heap.size + 1) [.bool c, t] ∧ BxAt w0 (w.heap.size + 1 + 1) [.bool false, .slice none 0 0] ∧ BxAt w0 (w.heap.size + 1 + 1 + 1) [.bool false, .slice none 0 0] ∧ Below w.heap.size w w0 := by
  refine ⟨_, rfl, (bx3_a w _ _ _ _).later (below_alloc _ _), (bx3_b w _ _ _ _).later (below_alloc _ _), (bx3_c w _ _ _ _).later (below_alloc _ _), ?_, bthen (bel3 w _ _ _) (below_alloc _ _)⟩
  have := bx3_c (w.alloc (.cells #[.bool b, s] 104)) [.bool false, .slice none 0 0] 104 (.cells #[.bool c, t] 104) (.cells #[.bool false, .slice none 0 0] 104)
  simpa using this
def WDivPost (x y : Int) (w : World) (e : Ending) (w' : World) : Prop :=
  (∃ b s c p n m, e = .returned (.tuple #[.agg #[.bool b, s], .agg #[.bool c, .slice p n m], .bool true]) ∧ Whp w' b s (x / y)) ∧ Below w.heap.size w w'
/-- the floor out of the quotient of the sizes -/
theorem div_up {x y : Int} {b : Bool} (hb : b = decide (x < 0)) (hy : 0 < y) : (x - sgn b (x.natAbs / y.natAbs) * y < 0 → sgn b (x.natAbs / y.natAbs + 1) = x / y) ∧ (¬ x - sgn b (x.natAbs / y.natAbs) * y < 0 → sgn b (x.natAbs / y.natAbs) = x / y) := by
  subst hb
  obtain ⟨m, rfl⟩ := Int.eq_ofNat_of_zero_le (Int.le_of_lt hy)
  have hm : 0 < m := by omega
  simp only [Int.natAbs_natCast]
  obtain ⟨n, hn⟩ : ∃ n, n = x.natAbs := ⟨_, rfl⟩
  rw [← hn]
  have e := Nat.mod_add_div n m
  have hl := Nat.mod_lt n hm
  obtain ⟨q, hq⟩ : ∃ q, q = n / m := ⟨_, rfl⟩
  rw [← hq] at e ⊢
  have e2 : ((n % m : Nat) : Int) + (m : Int) * (q : Int) = n := by exact_mod_cast e
  by_cases hx : x < 0
  · have hxn : x = -(n : Int) := by omega
    simp only [hx, decide_true, sgn, if_true]
    have e3 : x - -(q : Int) * (m : Int) = -((n % m : Nat) : Int) := by rw [Int.neg_mul, Int.mul_comm (q : Int)]; omega
    rw [e3]
    constructor
    · intro h
      symm
      rw [hxn, Int.ediv_eq_iff_of_pos hy]
      have : -((q + 1 : Nat) : Int) * (m : Int) = -((m : Int) * q) - m := by
        rw [Int.neg_mul, Int.natCast_add, Int.add_mul, Int.mul_comm (q : Int)]; omega
      rw [this]; omega
    · intro h
      symm
      rw [hxn, Int.ediv_eq_iff_of_pos hy]
      have : -(q : Int) * (m : Int) = -((m : Int) * q) := by rw [Int.neg_mul, Int.mul_comm (q : Int)]
      rw [this]; omega
  · have hxn : x = (n : Int) := by omega
    simp only [hx, decide_false, sgn]
    have e3 : x - (q : Int) * (m : Int) = ((n % m : Nat) : Int) := by rw [Int.mul_comm (q : Int)]; omega
    simp only [Bool.false_eq_true, if_false]
    rw [e3]
    constructor
    · intro h; omega
    · intro _
      rw [hxn, hq]; simp
theorem sgn_mul_le (b : Bool) (n m : Nat) (y : Int) (hm : m = y.natAbs) : (sgn b (n / m) * y).natAbs ≤ n ∧ (sgn b (n / m + 1) * y).natAbs ≤ n + m := by
  subst hm
  rw [Int.natAbs_mul, Int.natAbs_mul, sgn_abs, sgn_abs]
  have := Nat.div_mul_le_self n y.natAbs
  rw [Nat.add_mul]
  omega
theorem rem_abs {x y : Int} {b : Bool} (hb : b = decide (x < 0)) (hy : 0 < y) : (x - sgn b (x.natAbs / y.natAbs) * y).natAbs ≤ x.natAbs := by
  subst hb
  obtain ⟨m, rfl⟩ := Int.eq_ofNat_of_zero_le (Int.le_of_lt hy)
  simp only [Int.natAbs_natCast]
  obtain ⟨n, hn⟩ : ∃ n, n = x.natAbs := ⟨_, rfl⟩
  rw [← hn]
  have e := Nat.mod_add_div n m
  have hl := Nat.mod_le n m
  obtain ⟨q, hq⟩ : ∃ q, q = n / m := ⟨_, rfl⟩
  rw [← hq] at e ⊢
  have e2 : ((n % m : Nat) : Int) + (m : Int) * (q : Int) = n := by exact_mod_cast e
  by_cases hx : x < 0
  · simp only [hx, decide_true, sgn, if_true]
    rw [Int.neg_mul, Int.mul_comm (q : Int)]; omega
  · simp only [hx, decide_false, sgn, Bool.false_eq_true, if_false]
    rw [Int.mul_comm (q : Int)]; omega
theorem rem_fl {x y : Int} (hy : 0 < y) : (x - x / y * y).natAbs ≤ y.natAbs := by
  have h1 := Int.emod_add_mul_ediv x y
  have h2 := Int.emod_nonneg x (by omega : y ≠ 0)
  have h3 := Int.emod_lt_of_pos x hy
  rw [Int.mul_comm] at h1
  omega
theorem Nt.drew {w : World} {s : Value} {n : Nat} (h : Nt w s n) : Nt w.drew s n := h
theorem Whp.drew {w : World} {b : Bool} {s : Value} {z : Int} (h : Whp w b s z) : Whp w.drew b s z := h
/-- the arguments' boxes and the results' ones -/
def DSt (W : World) (A : Nat) (b : Bool) (s t : Value) (x y : Int) : Prop :=
  BxAt W A [.bool b, s] ∧ BxAt W (A + 1) [.bool false, t] ∧ BxAt W (A + 1 + 1) [.bool false, .slice none 0 0] ∧ BxAt W (A + 1 + 1 + 1) [.bool false, .slice none 0 0] ∧ Whp W b s x ∧ Whp W false t y
theorem DSt.later {W W1 : World} {A : Nat} {b : Bool} {s t : Value} {x y : Int} (h : DSt W A b s t x y) (hb : Below W.heap.size W W1) : DSt W1 A b s t x y :=
  ⟨h.1.later hb, h.2.1.later hb, h.2.2.1.later hb, h.2.2.2.1.later hb, h.2.2.2.2.1.later hb, h.2.2.2.2.2.later hb⟩
theorem BxAt.far2 {w : World} {g g' : Nat} {cs : List Value} (h : BxAt w g cs) (x y : Value) (hne : g' ≠ g) : BxAt ((w.setCell ⟨g', 0, none⟩ x).setCell ⟨g', 1, none⟩ y) g cs :=
  ⟨by simpa using h.1, fun k => by rw [World.frozen?_setCell, World.frozen?_setCell]; exact h.2.1 k, fun k u hu => cell2_far (h.2.2 k u hu) hne⟩
theorem BxAt.put2 {w : World} {g : Nat} {u0 u1 : Value} (h : BxAt w g [u0, u1]) (x y : Value) : BxAt ((w.setCell ⟨g, 0, none⟩ x).setCell ⟨g, 1, none⟩ y) g [x, y] := by
  refine ⟨by simpa using h.1, fun k => by rw [World.frozen?_setCell, World.frozen?_setCell]; exact h.2.1 k, fun k u hu => ?_⟩
  have c1 := h.other 0 1 x u1 (by omega) rfl
  match k, hu with
  | 0, hu =>
    rw [World.cell?_setCell_other, World.cell?_setCell_same _ _ _ (h.2.2 0 u0 rfl)]
    · exact hu
    · intro e; simp only [Addr.mk.injEq] at e; omega
  | 1, hu =>
    rw [World.cell?_setCell_same _ _ _ c1]
    exact hu
  | k + 2, hu => cases hu
theorem DSt.far {w : World} {A : Nat} {b : Bool} {s t : Value} {x y : Int} {g : Nat} {b0 : Bool} {p0 : Option Addr} {n0 c0 : Nat} (h : DSt w A b s t x y) (X : BxAt w g [.bool b0, .slice p0 n0 c0]) (u v : Value) (hg : A + 1 + 1 + 1 < g) : DSt ((w.setCell ⟨g, 0, none⟩ u).setCell ⟨g, 1, none⟩ v) A b s t x y :=
  ⟨h.1.far2 _ _ (by omega), h.2.1.far2 _ _ (by omega), h.2.2.1.far2 _ _ (by omega), h.2.2.2.1.far2 _ _ (by omega), h.2.2.2.2.1.store2 _ _ X, h.2.2.2.2.2.store2 _ _ X⟩
set_option maxRecDepth 100000 in
set_option maxHeartbeats 6400000 in
theorem WDiv_any (b c : Bool) (s t : Value) (x y : Int) (w : World) (hx : Small x.natAbs) (hy0 : 0 < y) (hxy : Small (x.natAbs + y.natAbs)) (h : Whp w b s x) (h2 : Whp w c t y) :
    Calls Try.prog 96 #[.agg #[.bool b, s], .agg #[.bool c, t]] w (WDivPost x y w) := by
  have hc : c = false := by rw [h2.1]; exact decide_eq_false (by omega)
  subst hc
  have DU := Lib.hid (div_up h.1 hy0)
  have RA := Lib.hid (rem_abs h.1 hy0)
  have SL := Lib.hid (sgn_mul_le b x.natAbs y.natAbs y rfl)
  have HX := Lib.hid hx
  have HY : Hid (Small y.natAbs) := Lib.hid (hxy.le (by omega))
  have HXY := Lib.hid hxy
  have HY0 := Lib.hid hy0
  have AC := Lib.hid (And.intro h h2)
  clear h h2 hx hxy hy0
  go_enter Try.func96, Try.ntmps96
  obtain ⟨w0, hw0, x0, y0, z0, v0, b0⟩ := bx4 w b s false t
  have D0 := Lib.hid (show DSt w0 w.heap.size b s t x y from ⟨x0, y0, z0, v0, AC.out.1.later b0, AC.out.2.later b0⟩)
  have B0 := Lib.hid b0
  clear x0 y0 z0 v0 b0 AC
  have d0 := D0.out.2.1.2.2 0 _ rfl
  have d1 := D0.out.2.1.2.2 1 _ rfl
  go_wp2_with fail
  clear hw0
  refine (Sign_any false t y w0 HY.out D0.out.2.2.2.2.2).mono ?_
  rintro e w1 ⟨rfl, hb1⟩
  rw [Int.sign_eq_one_of_pos HY0.out]
  have D1 := Lib.hid (D0.out.later hb1)
  have B1 := Lib.hid (bthen B0.out hb1)
  clear hb1 d0 d1
  have c1 := D1.out.1.2.2 1 _ rfl
  have d1 := D1.out.2.1.2.2 1 _ rfl
  go_wp2_with fail
  refine (Div_any s t x.natAbs y.natAbs w1 HX.out HY.out (by have := HY0.out; omega) D1.out.2.2.2.2.1.2 D1.out.2.2.2.2.2.2).mono ?_
  rintro e w2 ⟨⟨v2, u2, rfl, hq, hr⟩, hb2⟩
  have Q2 := Lib.hid hq
  have D2 := Lib.hid (D1.out.later hb2)
  have B2 := Lib.hid (bthen B1.out hb2)
  clear hb2 c1 d1 hq hr
  have c0 := D2.out.1.2.2 0 _ rfl
  have d0 := D2.out.2.1.2.2 0 _ rfl
  go_wp2_with fail
  refine (Make_any b v2 (x.natAbs / y.natAbs) w2 (HX.out.le (Nat.div_le_self _ _)) Q2.out).mono ?_
  rintro e w3 ⟨⟨b3, s3, rfl, h3⟩, hb3⟩
  obtain ⟨ps, ns, cs, rfl⟩ := h3.form
  have Q3 := Lib.hid (Q2.out.later hb3)
  have D3 := Lib.hid (D2.out.later hb3)
  have B3 := Lib.hid (bthen B2.out hb3)
  have M3 := Lib.hid h3
  clear hb3 c0 d0 h3
  go_wp2_with fail
  obtain ⟨w4, hw4⟩ : ∃ w4, w4 = w3.alloc (.cells #[.bool b3, .slice ps ns cs] 104) := ⟨_, rfl⟩
  obtain ⟨P, hP⟩ : ∃ P, P = w3.heap.size := ⟨_, rfl⟩
  obtain ⟨x1, hx1⟩ : ∃ x1, x1 = sgn b (x.natAbs / y.natAbs) := ⟨_, rfl⟩
  rw [← hx1] at DU RA SL M3
  have P4 := Lib.hid (show BxAt w4 P [.bool b3, .slice ps ns cs] by rw [hw4, hP]; exact BxAt.new w3 _ _)
  have B34 : Below w3.heap.size w3 w4 := by rw [hw4]; exact below_alloc _ _
  have M4 := Lib.hid (M3.out.later B34)
  have Q4 := Lib.hid (Q3.out.later B34)
  have D4 := Lib.hid (D3.out.later B34)
  have B4 := Lib.hid (bthen B3.out B34)
  have zP : w.heap.size + 1 + 1 + 1 < P := by rw [hP]; exact D3.out.2.2.2.1.1
  have zW : P < w4.heap.size := P4.out.1
  rw [← hw4, ← hP]
  have HX1 := Lib.hid hx1
  clear hw4 hP hx1 B34 Q2 Q3 D0 D1 D2 D3 B0 B1 B2 B3 M3
  have hs1 : Hid (Small x1.natAbs) := Lib.hid (by rw [HX1.out, sgn_abs]; exact HX.out.le (Nat.div_le_self _ _))
  have hs2 : Hid (Small (x1 * y).natAbs) := Lib.hid (HX.out.le SL.out.1)
  have hs3 : Hid (Small (x - x1 * y).natAbs) := Lib.hid (HX.out.le RA.out)
  go_cut [11] (fun s11 wx => ∃ g b6 pr nr cr, s11 = .pointer (some ⟨g, 0, none⟩) ∧ P < g ∧ BxAt wx g [.bool b6, .slice pr nr cr] ∧ Whp wx b6 (.slice pr nr cr) (x - x1 * y) ∧ Below w4.heap.size w4 wx)
  case first =>
    have a0 := D4.out.1.2.2 0 _ rfl
    have a1 := D4.out.1.2.2 1 _ rfl
    have c0 := D4.out.2.1.2.2 0 _ rfl
    have c1 := D4.out.2.1.2.2 1 _ rfl
    have p0 := P4.out.2.2 0 _ rfl
    have p1 := P4.out.2.2 1 _ rfl
    go_region_held3 (fun w' => w'.cell? ⟨w.heap.size, 0, none⟩ = some (.bool b) ∧ w'.cell? ⟨w.heap.size, 1, none⟩ = some s ∧ w'.cell? ⟨w.heap.size + 1, 0, none⟩ = some (.bool false) ∧ w'.cell? ⟨w.heap.size + 1, 1, none⟩ = some t ∧ w'.cell? ⟨P, 0, none⟩ = some (.bool b3) ∧ w'.cell? ⟨P, 1, none⟩ = some (.slice ps ns cs))
      (first | exact ⟨a0, a1, c0, c1, p0, p1⟩ | (refine ⟨?_, ?_, ?_, ?_, ?_, ?_⟩ <;> (first | assumption | exact cell_alloc _ (by assumption) | exact cell2_far (by assumption) (by omega) | exact cell2_far (cell_alloc _ (by assumption)) (by omega))))
      (first
        | (go_at_call 78; refine (WMul_any _ _ _ _ x1 y _ hs1.out HY.out hs2.out (by first | exact M4.out.drew | exact (M4.out.later (below_alloc _ _)).drew) (by first | exact D4.out.2.2.2.2.2.drew | exact (D4.out.2.2.2.2.2.later (below_alloc _ _)).drew)).mono ?_; rintro e w5 ⟨⟨b5, s5, rfl, h5⟩, hb5⟩; have k5 : Below w4.heap.size w4 w5 := (by first | exact hb5 | exact bel_drew hb5 | exact bthen (below_alloc _ _) (bel_drew hb5) | exact bthen (below_alloc _ _) hb5); have z5 := k5.size; have a0' := cell_later k5 a0; have a1' := cell_later k5 a1; have c0' := cell_later k5 c0; have c1' := cell_later k5 c1; have p0' := cell_later k5 p0; have p1' := cell_later k5 p1; first | (have N5 : BxAt w5 w4.heap.size [.bool false, .slice none 0 0] := (BxAt.new w4 [.bool false, .slice none 0 0] 104).later (bel_drew hb5)) | skip)
        | (go_at_call 105; refine (WSub_any _ _ _ _ x (x1 * y) _ HX.out hs2.out hs3.out (by first | exact D4.out.2.2.2.2.1.later k5 | exact (D4.out.2.2.2.2.1.later k5).later (below_alloc _ _)) (by first | exact h5 | exact h5.later (below_alloc _ _))).mono ?_; rintro e w6 ⟨⟨b6, s6, rfl, h6⟩, hb6⟩; obtain ⟨pr, nr, cr, rfl⟩ := h6.form; have k6 : Below w5.heap.size w5 w6 := (by first | exact hb6 | exact bthen (below_alloc _ _) hb6); have z6 := k6.size; have a0'' := cell_later k6 a0'; have a1'' := cell_later k6 a1'; have c0'' := cell_later k6 c0'; have c1'' := cell_later k6 c1'; have p0'' := cell_later k6 p0'; have p1'' := cell_later k6 p1'; first | (have N6 := N5.later k6; have n0 := N6.2.2 0 _ rfl; have n1 := N6.2.2 1 _ rfl; have nf := N6.2.1) | (have N6 : BxAt w6 w5.heap.size [.bool false, .slice none 0 0] := (BxAt.new w5 [.bool false, .slice none 0 0] 104).later hb6; have n0 := N6.2.2 0 _ rfl; have n1 := N6.2.2 1 _ rfl; have nf := N6.2.1) | skip))
    all_goals go_wp2_with fail
    all_goals go_meet
    · exact ⟨w6.heap.size, b6, pr, nr, cr, rfl, by omega, BxAt.new w6 _ _, h6.later (below_alloc _ _), bthen (bthen k5 k6) (below_alloc _ _)⟩
    · exact ⟨w5.heap.size, b6, pr, nr, cr, rfl, by omega, N6.put2 _ _, h6.store2 _ _ N6, below_store2 (bthen k5 k6) z5 _ _⟩
    · exact ⟨w4.heap.size, b6, pr, nr, cr, rfl, by omega, N6.put2 _ _, h6.store2 _ _ N6, below_store2 (bthen k5 k6) (Nat.le_refl _) _ _⟩
  case rest =>
    obtain ⟨g, b6, pr, nr, cr, rfl, hPg, xg, hr6, hbx⟩ := hcut
    have G6 := Lib.hid xg
    have R6 := Lib.hid hr6
    have D6 := Lib.hid (D4.out.later hbx)
    have P6 := Lib.hid (P4.out.later hbx)
    have M6 := Lib.hid (M4.out.later hbx)
    have Q6 := Lib.hid (Q4.out.later hbx)
    have B6 := Lib.hid (bthen B4.out hbx)
    have g0 := xg.2.2 0 _ rfl
    have g1 := xg.2.2 1 _ rfl
    clear xg hr6 hbx D4 P4 M4 Q4 B4 zW
    go_wp2_with fail
    refine (Sign_any b6 (.slice pr nr cr) (x - x1 * y) wc hs3.out R6.out).mono ?_
    rintro e w7 ⟨rfl, hb7⟩
    have G7 := Lib.hid (G6.out.later hb7)
    have D7 := Lib.hid (D6.out.later hb7)
    have P7 := Lib.hid (P6.out.later hb7)
    have M7 := Lib.hid (M6.out.later hb7)
    have Q7 := Lib.hid (Q6.out.later hb7)
    have B7 := Lib.hid (bthen B6.out hb7)
    clear hb7 g0 g1 G6 D6 P6 M6 Q6 B6 R6
    by_cases hr0 : x - x1 * y < 0
    · rw [Int.sign_eq_neg_one_of_neg hr0]
      have DU1 := Lib.hid (DU.out.1 hr0)
      clear hr0
      have hs4 : Hid (Small (x.natAbs / y.natAbs + 1)) := Lib.hid (HXY.out.le (by have := Nat.div_le_self x.natAbs y.natAbs; have := HY0.out; omega))
      have hs5 : Hid (Small (x / y).natAbs) := Lib.hid (by rw [← DU1.out, sgn_abs]; exact hs4.out)
      have hs6 : Hid (Small (x / y * y).natAbs) := Lib.hid (by rw [← DU1.out]; exact HXY.out.le SL.out.2)
      have hs7 : Hid (Small (x - x / y * y).natAbs) := Lib.hid (HY.out.le (rem_fl HY0.out))
      have a0 := D7.out.1.2.2 0 _ rfl
      have c0 := D7.out.2.1.2.2 0 _ rfl
      go_wp2_with fail
      go_region_held3 (fun w' => w'.cell? ⟨w.heap.size, 0, none⟩ = some (.bool b) ∧ w'.cell? ⟨w.heap.size + 1, 0, none⟩ = some (.bool false))
        (first | exact ⟨a0, c0⟩ | (refine ⟨?_, ?_⟩ <;> (first | assumption | exact cell_alloc _ (by assumption) | exact cell2_far (by assumption) (by omega))))
        (first
          | (go_at_call 92; refine (Add_any _ _ (x.natAbs / y.natAbs) 1 _ (HX.out.le (Nat.div_le_self _ _)) (Small.of (by omega)) (Q7.out.later (below_alloc _ _)).drew (nt_new1 w7).drew).mono ?_; rintro e w8 ⟨⟨v8, rfl, h8⟩, hb8⟩; have k8 : Below w7.heap.size w7 w8 := bthen (below_alloc _ _) (bel_drew hb8); have a0' := cell_later k8 a0; have c0' := cell_later k8 c0)
          | (go_at_call 91; refine (Make_any _ _ (x.natAbs / y.natAbs + 1) _ hs4.out (by assumption)).mono ?_; rintro e w9 ⟨⟨b9, s9, rfl, h9⟩, hb9⟩; obtain ⟨pq, nq, cq, rfl⟩ := h9.form; have a0'' := cell_later hb9 a0'; have c0'' := cell_later hb9 c0'; have P9 := (P7.out.later k8).later hb9; have p0 := P9.2.2 0 _ rfl; have p1 := P9.2.2 1 _ rfl; have pf := P9.2.1))
      go_wp2_with fail
      have k9 := bthen k8 hb9
      obtain ⟨wa, hwa⟩ : ∃ wa, wa = (w9.setCell ⟨P, 0, none⟩ (.bool b9)).setCell ⟨P, 1, none⟩ (.slice pq nq cq) := ⟨_, rfl⟩
      rw [← hwa]
      have D10 : Hid (DSt wa w.heap.size b s t x y) := Lib.hid (by rw [hwa]; exact (D7.out.later k9).far P9 _ _ zP)
      have P10 : Hid (BxAt wa P [.bool b9, .slice pq nq cq]) := Lib.hid (by rw [hwa]; exact P9.put2 _ _)
      have M10 : Hid (Whp wa b9 (.slice pq nq cq) (x / y)) := Lib.hid (by rw [hwa]; rw [DU1.out] at h9; exact h9.store2 _ _ P9)
      have G10 : Hid (BxAt wa g [.bool b6, .slice pr nr cr]) := Lib.hid (by rw [hwa]; exact (G7.out.later k9).far2 _ _ (by omega))
      have B10 : Hid (Below w.heap.size w wa) := Lib.hid (by rw [hwa]; exact below_store2 (bthen B7.out k9) (by omega) _ _)
      clear hwa a0 c0 a0' c0' a0'' c0'' p0 p1 pf P9 k8 k9 hb8 hb9 h8 h9 D7 P7 M7 Q7 G7 B7
      have a0 := D10.out.1.2.2 0 _ rfl
      have a1 := D10.out.1.2.2 1 _ rfl
      have c0 := D10.out.2.1.2.2 0 _ rfl
      have c1 := D10.out.2.1.2.2 1 _ rfl
      have p0 := P10.out.2.2 0 _ rfl
      have p1 := P10.out.2.2 1 _ rfl
      go_region_held3 (fun w' => w'.cell? ⟨w.heap.size, 0, none⟩ = some (.bool b) ∧ w'.cell? ⟨w.heap.size, 1, none⟩ = some s ∧ w'.cell? ⟨w.heap.size + 1, 0, none⟩ = some (.bool false) ∧ w'.cell? ⟨w.heap.size + 1, 1, none⟩ = some t ∧ w'.cell? ⟨P, 0, none⟩ = some (.bool b9) ∧ w'.cell? ⟨P, 1, none⟩ = some (.slice pq nq cq))
        (first | exact ⟨a0, a1, c0, c1, p0, p1⟩ | (refine ⟨?_, ?_, ?_, ?_, ?_, ?_⟩ <;> (first | assumption | exact cell2_far (by assumption) (by omega))))
        (first
          | (go_at_call 78; refine (WMul_any _ _ _ _ (x / y) y _ hs5.out HY.out hs6.out M10.out.drew D10.out.2.2.2.2.2.drew).mono ?_; rintro e wb ⟨⟨b5, s5, rfl, h5⟩, hb5⟩; have kb : Below wa.heap.size wa wb := bel_drew hb5; have a0' := cell_later kb a0; have a1' := cell_later kb a1; have c0' := cell_later kb c0; have c1' := cell_later kb c1; have p0' := cell_later kb p0; have p1' := cell_later kb p1)
          | (go_at_call 105; refine (WSub_any _ _ _ _ x (x / y * y) _ HX.out hs6.out hs7.out (D10.out.2.2.2.2.1.later kb) h5).mono ?_; rintro e wd ⟨⟨b7, s7, rfl, h7⟩, hb7⟩; obtain ⟨pt', nt', ct', rfl⟩ := h7.form; have a0'' := cell_later hb7 a0'; have a1'' := cell_later hb7 a1'; have c0'' := cell_later hb7 c0'; have c1'' := cell_later hb7 c1'; have p0'' := cell_later hb7 p0'; have p1'' := cell_later hb7 p1'; have G12 := (G10.out.later kb).later hb7; have g0 := G12.2.2 0 _ rfl; have g1 := G12.2.2 1 _ rfl; have gf := G12.2.1))
      go_wp2_with fail
      have kd := bthen kb hb7
      obtain ⟨we, hwe⟩ : ∃ we, we = (wd.setCell ⟨g, 0, none⟩ (.bool b7)).setCell ⟨g, 1, none⟩ (.slice pt' nt' ct') := ⟨_, rfl⟩
      rw [← hwe]
      have D14 : Hid (DSt we w.heap.size b s t x y) := Lib.hid (by rw [hwe]; exact (D10.out.later kd).far G12 _ _ (by omega))
      have P14 : Hid (BxAt we P [.bool b9, .slice pq nq cq]) := Lib.hid (by rw [hwe]; exact (P10.out.later kd).far2 _ _ (by omega))
      have M14 : Hid (Whp we b9 (.slice pq nq cq) (x / y)) := Lib.hid (by rw [hwe]; exact (M10.out.later kd).store2 _ _ G12)
      have G14 : Hid (BxAt we g [.bool b7, .slice pt' nt' ct']) := Lib.hid (by rw [hwe]; exact G12.put2 _ _)
      have B14 : Hid (Below w.heap.size w we) := Lib.hid (by rw [hwe]; exact below_store2 (bthen B10.out kd) (by omega) _ _)
      clear hwe a0 a1 c0 c1 p0 p1 a0' a1' c0' c1' p0' p1' a0'' a1'' c0'' c1'' p0'' p1'' g0 g1 gf G12 kb kd hb5 hb7 h5 h7 D10 P10 M10 G10 B10
      have p0 := P14.out.2.2 0 _ rfl
      have p1 := P14.out.2.2 1 _ rfl
      have g0 := G14.out.2.2 0 _ rfl
      have g1 := G14.out.2.2 1 _ rfl
      have z0 := D14.out.2.2.1.2.2 0 _ rfl
      have z1 := D14.out.2.2.1.2.2 1 _ rfl
      have zf := D14.out.2.2.1.2.1
      have v0 := D14.out.2.2.2.1.2.2 0 _ rfl
      have v1 := D14.out.2.2.2.1.2.2 1 _ rfl
      have vf := D14.out.2.2.2.1.2.1
      go_region
      all_goals go_wp2_with fail
      all_goals
        refine bodyPost_ret (v := .tuple #[.agg #[.bool b9, .slice pq nq cq], .agg #[.bool b7, .slice pt' nt' ct'], .bool true]) ?_ rfl ⟨⟨_, _, _, _, _, _, rfl, ?_⟩, ?_⟩
        · simp [results, Try.results96, go_sem, z0, z1, v0, v1]
        · first
            | exact Whp.drew ((M14.out.store2 _ _ D14.out.2.2.1).store2 _ _ (D14.out.2.2.2.1.far2 _ _ (by omega)))
            | exact Whp.drew ((M14.out.store2 _ _ D14.out.2.2.2.1).store2 _ _ (D14.out.2.2.1.far2 _ _ (by omega)))
        · exact (below_store2 (below_store2 B14.out (by omega) _ _) (by omega) _ _).drew
    · obtain ⟨sg, hsg⟩ : ∃ sg, sg = (x - x1 * y).sign := ⟨_, rfl⟩
      have hsg0 : ¬ sg < 0 := by
        rw [hsg]
        rcases Int.lt_or_eq_of_le (Int.not_lt.1 hr0) with h | h
        · rw [Int.sign_eq_one_of_pos h]; omega
        · rw [← h]; simp
      have DU2 := Lib.hid (DU.out.2 (by omega))
      rw [← hsg]
      clear hsg hr0
      have p0 := P7.out.2.2 0 _ rfl
      have p1 := P7.out.2.2 1 _ rfl
      have g0 := G7.out.2.2 0 _ rfl
      have g1 := G7.out.2.2 1 _ rfl
      have z0 := D7.out.2.2.1.2.2 0 _ rfl
      have z1 := D7.out.2.2.1.2.2 1 _ rfl
      have zf := D7.out.2.2.1.2.1
      have v0 := D7.out.2.2.2.1.2.2 0 _ rfl
      have v1 := D7.out.2.2.2.1.2.2 1 _ rfl
      have vf := D7.out.2.2.2.1.2.1
      go_wp2_with fail
      go_region
      all_goals go_wp2_with fail
      all_goals
        refine bodyPost_ret (v := .tuple #[.agg #[.bool b3, .slice ps ns cs], .agg #[.bool b6, .slice pr nr cr], .bool true]) ?_ rfl ⟨⟨_, _, _, _, _, _, rfl, ?_⟩, ?_⟩
        · simp [results, Try.results96, go_sem, z0, z1, v0, v1]
        · rw [← DU2.out]
          first
            | exact Whp.drew ((M7.out.store2 _ _ D7.out.2.2.1).store2 _ _ (D7.out.2.2.2.1.far2 _ _ (by omega)))
            | exact Whp.drew ((M7.out.store2 _ _ D7.out.2.2.2.1).store2 _ _ (D7.out.2.2.1.far2 _ _ (by omega)))
        · exact (below_store2 (below_store2 B7.out (by omega) _ _) (by omega) _ _).drew
end Go.Proofs.Ytbmbibjidpgbnaa
