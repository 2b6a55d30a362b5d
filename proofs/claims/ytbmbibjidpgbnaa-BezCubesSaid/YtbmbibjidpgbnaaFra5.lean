/- Contracts of the reference's fractions: Make, Div. -/
import Derived.Test.YtbmbibjidpgbnaaFra4
namespace Go.Proofs.Ytbmbibjidpgbnaa
open Go.RowKit

def FrMPost (q : Rat) (w : World) (e : Ending) (w' : World) : Prop := (∃ b s d, e = .returned (.tuple #[.agg #[.bool b, s, d], .int .i64 0]) ∧ Frp w' b s d q) ∧ Below w.heap.size w w'
/-- the boxes of two whole numbers, and the result's -/
def MSt (W : World) (A : Nat) (b : Bool) (s : Value) (c : Bool) (t : Value) (x y : Int) : Prop :=
  BxAt W A [.bool b, s] ∧ BxAt W (A + 1) [.bool c, t] ∧ BxAt W (A + 1 + 1) [.bool false, .slice none 0 0, .slice none 0 0] ∧ Whp W b s x ∧ Whp W c t y
theorem MSt.later {W W1 : World} {A : Nat} {b : Bool} {s : Value} {c : Bool} {t : Value} {x y : Int} (h : MSt W A b s c t x y) (hb : Below W.heap.size W W1) : MSt W1 A b s c t x y :=
  ⟨h.1.later hb, h.2.1.later hb, h.2.2.1.later hb, h.2.2.2.1.later hb, h.2.2.2.2.later hb⟩
theorem MSt.cells {W : World} {A : Nat} {b : Bool} {s : Value} {c : Bool} {t : Value} {x y : Int} (h : MSt W A b s c t x y) : W.cell? ⟨A, 0, none⟩ = some (.bool b) ∧ W.cell? ⟨A, 1, none⟩ = some s ∧ W.cell? ⟨A + 1, 0, none⟩ = some (.bool c) ∧ W.cell? ⟨A + 1, 1, none⟩ = some t :=
  ⟨h.1.2.2 0 _ rfl, h.1.2.2 1 _ rfl, h.2.1.2.2 0 _ rfl, h.2.1.2.2 1 _ rfl⟩
theorem MSt.far {W : World} {A : Nat} {b : Bool} {s : Value} {c : Bool} {t : Value} {x y : Int} (h : MSt W A b s c t x y) (u v z : Value) : (set3 W (A + 1 + 1) u v z).cell? ⟨A, 0, none⟩ = some (.bool b) ∧ (set3 W (A + 1 + 1) u v z).cell? ⟨A, 1, none⟩ = some s ∧ (set3 W (A + 1 + 1) u v z).cell? ⟨A + 1, 0, none⟩ = some (.bool c) ∧ (set3 W (A + 1 + 1) u v z).cell? ⟨A + 1, 1, none⟩ = some t := by
  have h1 := h.1.far3 (g' := A + 1 + 1) u v z (by omega)
  have h2 := h.2.1.far3 (g' := A + 1 + 1) u v z (by omega)
  exact ⟨h1.2.2 0 _ rfl, h1.2.2 1 _ rfl, h2.2.2 0 _ rfl, h2.2.2 1 _ rfl⟩
set_option maxRecDepth 100000 in
set_option maxHeartbeats 6400000 in
theorem FMake_any (b : Bool) (s : Value) (c : Bool) (t : Value) (x y : Int) (w : World) (hx : Small x.natAbs) (hy : Small y.natAbs) (hy0 : 0 < y) (h : Whp w b s x) (h2 : Whp w c t y) :
    Calls Try.prog 77 #[.agg #[.bool b, s], .agg #[.bool c, t]] w (FrMPost (mkRat x y.natAbs) w) := by
  have hc : c = false := by rw [h2.1]; exact decide_eq_false (by omega)
  subst hc
  obtain ⟨p1, n1, c1, rfl⟩ := h.form
  obtain ⟨p2, n2, c2, rfl⟩ := h2.form
  have SX := Lib.hid hx
  have SY := Lib.hid hy
  have Y0 := Lib.hid hy0
  have YN : Hid (0 < y.natAbs) := Lib.hid (by omega)
  have SV := Lib.hid (sgn_self h.1)
  obtain ⟨w0, hw0⟩ : ∃ w0, ((w.alloc (.cells #[.bool b, .slice p1 n1 c1] 104)).alloc (.cells #[.bool false, .slice p2 n2 c2] 104)).alloc (.cells #[.bool false, .slice none 0 0, .slice none 0 0] 106) = w0 := ⟨_, rfl⟩
  have F0 : Hid (MSt w0 w.heap.size b (.slice p1 n1 c1) false (.slice p2 n2 c2) x y) := Lib.hid (by rw [← hw0]; exact ⟨bx3_a w _ _ _ _, bx3_b w _ _ _ _, bx3_c w _ _ _ _, h.later (bel3 _ _ _ _), h2.later (bel3 _ _ _ _)⟩)
  have B0 : Hid (Below w.heap.size w w0) := Lib.hid (by rw [← hw0]; exact bel3 _ _ _ _)
  clear h h2 hx hy hy0
  have a0 := F0.out.2.1.2.2 0 _ rfl
  have a1 := F0.out.2.1.2.2 1 _ rfl
  go_enter Try.func77, Try.ntmps77
  go_wp2_with fail
  clear hw0
  refine (Sign_any false _ y w0 SY.out F0.out.2.2.2.2).mono ?_
  rintro e w1 ⟨rfl, hb1⟩
  rw [Int.sign_eq_one_of_pos Y0.out]
  have F1 := Lib.hid (F0.out.later hb1)
  have B1 := Lib.hid (bthen B0.out hb1)
  clear hb1 a0 a1 F0 B0
  go_wp2_with fail
  have N1 : Hid (Nt w1 (.slice p1 n1 c1) x.natAbs) := Lib.hid F1.out.2.2.2.1.2
  have N2 : Hid (Nt w1 (.slice p2 n2 c2) y.natAbs) := Lib.hid F1.out.2.2.2.2.2
  have F2 := F1.out
  have k : Below w1.heap.size w1 w1 := Below.refl _ _
  go_region_held3 (fun w' => w'.cell? ⟨w.heap.size, 0, none⟩ = some (.bool b) ∧ w'.cell? ⟨w.heap.size, 1, none⟩ = some (.slice p1 n1 c1) ∧ w'.cell? ⟨w.heap.size + 1, 0, none⟩ = some (.bool false) ∧ w'.cell? ⟨w.heap.size + 1, 1, none⟩ = some (.slice p2 n2 c2))
    (first | with_reducible exact F2.cells | with_reducible exact F2.far _ _ _ | exact F2.cells)
    (first
      | (go_at_call 91; (with_reducible refine (Make_any _ _ x.natAbs _ SX.out N1.out.drew).mono ?_); rintro e v1 ⟨⟨bp, sp, rfl, P1⟩, hb⟩; obtain ⟨pr, nr, cr, rfl⟩ := P1.form; rw [SV.out] at P1; have k : Below w1.heap.size w1 v1 := bel_drew hb; have F2 := F1.out.later k)
      | (go_at_call 86; (with_reducible refine (FReduce_any bp _ _ x y.natAbs _ SX.out SY.out YN.out P1 (N2.out.later k)).mono ?_); rintro e v7 ⟨⟨bz, sz, dz, rfl, P5⟩, hb⟩; obtain ⟨⟨pz, nz, cz, rfl⟩, py, ny, cy, rfl⟩ := P5.forms; have k := bthen k hb; have F2 := F1.out.later k; have R7 := F2.2.2.1; have r0 := R7.2.2 0 _ rfl; have r1 := R7.2.2 1 _ rfl; have r2 := R7.2.2 2 _ rfl; have rf := R7.2.1))
  all_goals go_wp2_with fail
  refine bodyPost_ret (v := .tuple #[.agg #[.bool bz, .slice pz nz cz, .slice py ny cy], .int .i64 0]) ?_ rfl ⟨⟨_, _, _, rfl, P5.store3 _ _ _ R7⟩, below_store3 (bthen B1.out k) (by omega) _ _ _⟩
  clear F2 k R7 P5
  simp [results, Try.results77, go_sem, r0, r1, r2]
theorem div_rat {p q : Rat} (h : 0 < q.num) : mkRat (p.num * (q.den : Int)) (q.num * (p.den : Int)).natAbs = p / q := by
  rw [Rat.div_def, Rat.mul_def', Rat.num_inv, Rat.den_inv, if_neg (by omega), Int.sign_eq_one_of_pos h, Int.one_mul, Int.natAbs_mul, Int.natAbs_natCast, Nat.mul_comm p.den]
def DivOk (p q : Rat) : Prop := 0 < q.num ∧ q.den ≤ Q62 ∧ p.num.natAbs * q.den ≤ Q62 ∧ q.num.natAbs * p.den ≤ Q62
theorem DivOk.all {a b : Rat} (h : DivOk a b) : (Small a.num.natAbs ∧ Small b.num.natAbs ∧ Small a.den ∧ Small b.den) ∧ (Small ((a.den : Int)).natAbs ∧ Small ((b.den : Int)).natAbs) ∧ Small (a.num * (b.den : Int)).natAbs ∧ Small (b.num * (a.den : Int)).natAbs ∧ 0 < b.num * (a.den : Int) := by
  obtain ⟨h0, hbd, h1, h2⟩ := h
  have pa := a.den_pos
  have pb := b.den_pos
  have e1 := Nat.le_mul_of_pos_right a.num.natAbs pb
  have e2 := Nat.le_mul_of_pos_right b.num.natAbs pa
  have e3 := Nat.le_mul_of_pos_left a.den (show 0 < b.num.natAbs by omega)
  have m1 : (a.num * (b.den : Int)).natAbs = a.num.natAbs * b.den := by rw [Int.natAbs_mul, Int.natAbs_natCast]
  have m2 : (b.num * (a.den : Int)).natAbs = b.num.natAbs * a.den := by rw [Int.natAbs_mul, Int.natAbs_natCast]
  have e4 : 0 < b.num * (a.den : Int) := Int.mul_pos h0 (by omega)
  exact ⟨⟨Small.q (by omega), Small.q (by omega), Small.q (by omega), Small.q (by omega)⟩, ⟨Small.q (by simp; omega), Small.q (by simp; omega)⟩, Small.q (by omega), Small.q (by omega), e4⟩
set_option maxRecDepth 100000 in
set_option maxHeartbeats 6400000 in
theorem FDiv_any (b : Bool) (s d : Value) (c : Bool) (t f : Value) (p q : Rat) (w : World) (hok : DivOk p q) (h : Frp w b s d p) (h2 : Frp w c t f q) :
    Calls Try.prog 60 #[.agg #[.bool b, s, d], .agg #[.bool c, t, f]] w (FrMPost (p / q) w) := by
  obtain ⟨⟨p1, n1, c1, rfl⟩, p2, n2, c2, rfl⟩ := h.forms
  obtain ⟨⟨p3, n3, c3, rfl⟩, p4, n4, c4, rfl⟩ := h2.forms
  have SM := Lib.hid hok.all
  have DP := Lib.hid (And.intro p.den_pos q.den_pos)
  have SUM := Lib.hid (div_rat (p := p) hok.1)
  obtain ⟨w0, hw0, f0, b0⟩ := FSt.new w b _ _ c _ _ p q h h2
  have F0 := Lib.hid f0
  have B0 := Lib.hid b0
  clear h h2 hok f0 b0
  go_enter Try.func60, Try.ntmps60
  go_wp2_with fail
  clear hw0
  go_cut [6] (fun _ wx => FSt wx w.heap.size b (.slice p1 n1 c1) (.slice p2 n2 c2) c (.slice p3 n3 c3) (.slice p4 n4 c4) p q ∧ Below w.heap.size w wx)
  case first =>
    have F2 := F0.out
    have k : Below w0.heap.size w0 w0 := Below.refl _ _
    have D1 : Hid (Nt w0 (.slice p2 n2 c2) p.den) := Lib.hid F0.out.2.2.2.1.2
    have D2 : Hid (Nt w0 (.slice p4 n4 c4) q.den) := Lib.hid F0.out.2.2.2.2.2
    go_region_held3 (fun w' => w'.cell? ⟨w.heap.size, 0, none⟩ = some (.bool b) ∧ w'.cell? ⟨w.heap.size, 1, none⟩ = some (.slice p1 n1 c1) ∧ w'.cell? ⟨w.heap.size, 2, none⟩ = some (.slice p2 n2 c2) ∧ w'.cell? ⟨w.heap.size + 1, 0, none⟩ = some (.bool c) ∧ w'.cell? ⟨w.heap.size + 1, 1, none⟩ = some (.slice p3 n3 c3) ∧ w'.cell? ⟨w.heap.size + 1, 2, none⟩ = some (.slice p4 n4 c4))
      (first | with_reducible exact F2.cells | with_reducible exact F2.once.cells | with_reducible exact F2.again.cells | exact F2.cells)
      (first
        | (go_at_call 76; (with_reducible refine (worth_any b _ _ p.den _ SM.out.1.2.2.1 DP.out.1 (isSl _ _ _) D1.out.drew).mono ?_); rintro e v1 ⟨rfl, hb⟩; have k : Below w0.heap.size w0 v1 := bel_drew hb; have F2 := F0.out.later k)
        | (go_at_call 76; (with_reducible refine (worth_any c _ _ q.den _ SM.out.1.2.2.2 DP.out.2 (isSl _ _ _) (D2.out.later k)).mono ?_); rintro e v2 ⟨rfl, hb⟩; have k := bthen k hb; have F2 := F0.out.later k; have g0 := F2.1.2.2 0 _ rfl; have g1 := F2.1.2.2 1 _ rfl; have g2 := F2.1.2.2 2 _ rfl; have gf := F2.1.2.1; have j0 := F2.2.1.2.2 0 _ rfl; have j1 := F2.2.1.2.2 1 _ rfl; have j2 := F2.2.1.2.2 2 _ rfl; have jf := F2.2.1.2.1))
    all_goals go_wp2_with fail
    all_goals go_meet
    exact ⟨F2.again, below_store3 (below_store3 (bthen B0.out k) (Nat.le_refl _) _ _ _) (by omega) _ _ _⟩
  case rest =>
    obtain ⟨f1, b1⟩ := hcut
    have F1 := Lib.hid f1
    have B1 := Lib.hid b1
    have N1 : Hid (Whp wc b (.slice p1 n1 c1) p.num) := Lib.hid f1.2.2.2.1.1
    have N2 : Hid (Whp wc c (.slice p3 n3 c3) q.num) := Lib.hid f1.2.2.2.2.1
    have D1 : Hid (Nt wc (.slice p2 n2 c2) p.den) := Lib.hid f1.2.2.2.1.2
    have D2 : Hid (Nt wc (.slice p4 n4 c4) q.den) := Lib.hid f1.2.2.2.2.2
    have F2 := f1
    have k : Below wc.heap.size wc wc := Below.refl _ _
    clear f1 b1 F0 B0
    go_wp2_with fail
    go_region_held3 (fun w' => w'.cell? ⟨w.heap.size, 0, none⟩ = some (.bool b) ∧ w'.cell? ⟨w.heap.size, 1, none⟩ = some (.slice p1 n1 c1) ∧ w'.cell? ⟨w.heap.size, 2, none⟩ = some (.slice p2 n2 c2) ∧ w'.cell? ⟨w.heap.size + 1, 0, none⟩ = some (.bool c) ∧ w'.cell? ⟨w.heap.size + 1, 1, none⟩ = some (.slice p3 n3 c3) ∧ w'.cell? ⟨w.heap.size + 1, 2, none⟩ = some (.slice p4 n4 c4))
      (first | with_reducible exact F2.cells | with_reducible exact F2.far _ _ _ | exact F2.cells)
      (first
        | (go_at_call 79; (with_reducible refine (up_any c (.slice p3 n3 c3) (.slice p4 n4 c4) q.den _ D2.out.drew).mono ?_); rintro e v1 ⟨rfl, hb⟩; have k : Below wc.heap.size wc v1 := bel_drew hb; have F2 := F1.out.later k)
        | (go_at_call 78; (with_reducible refine (WMul_any b false _ _ p.num (q.den : Int) _ SM.out.1.1 SM.out.2.1.2 SM.out.2.2.1 (N1.out.later k) (whp_nat (D2.out.later k))).mono ?_); rintro e v2 ⟨⟨bp, sp, rfl, P1⟩, hb⟩; have k := bthen k hb; have F2 := F1.out.later k)
        | (go_at_call 79; (with_reducible refine (up_any b (.slice p1 n1 c1) (.slice p2 n2 c2) p.den _ (D1.out.later k)).mono ?_); rintro e v3 ⟨rfl, hb⟩; have P1 := P1.later hb; have k := bthen k hb; have F2 := F1.out.later k)
        | (go_at_call 78; (with_reducible refine (WMul_any c false _ _ q.num (p.den : Int) _ SM.out.1.2.1 SM.out.2.1.1 SM.out.2.2.2.1 (N2.out.later k) (whp_nat (D1.out.later k))).mono ?_); rintro e v4 ⟨⟨bq, sq, rfl, P2⟩, hb⟩; have P1 := P1.later hb; have k := bthen k hb; have F2 := F1.out.later k)
        | (go_at_call 77; (with_reducible refine (FMake_any bp sp bq sq (p.num * (q.den : Int)) (q.num * (p.den : Int)) _ SM.out.2.2.1 SM.out.2.2.2.1 SM.out.2.2.2.2 P1 P2).mono ?_); rintro e v7 ⟨⟨bz, sz, dz, rfl, P5⟩, hb⟩; obtain ⟨⟨pz, nz, cz, rfl⟩, py, ny, cy, rfl⟩ := P5.forms; have k := bthen k hb; have F2 := F1.out.later k; have R7 := F2.2.2.1; have r0 := R7.2.2 0 _ rfl; have r1 := R7.2.2 1 _ rfl; have r2 := R7.2.2 2 _ rfl; have rf := R7.2.1))
    all_goals go_wp2_with fail
    rw [SUM.out] at P5
    refine bodyPost_ret (v := .tuple #[.agg #[.bool bz, .slice pz nz cz, .slice py ny cy], .int .i64 0]) ?_ rfl ⟨⟨_, _, _, rfl, P5.store3 _ _ _ R7⟩, below_store3 (bthen B1.out k) (by omega) _ _ _⟩
    clear F2 k R7 P5
    simp [results, Try.results60, go_sem, r0, r1, r2]
end Go.Proofs.Ytbmbibjidpgbnaa
