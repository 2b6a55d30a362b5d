/- Contracts of the reference's fractions: Neg, Sub, Mul. -/
import Derived.Test.YtbmbibjidpgbnaaFra3
namespace Go.Proofs.Ytbmbibjidpgbnaa
open Go.RowKit

def GSt (W : World) (A : Nat) (b : Bool) (s d : Value) (q : Rat) : Prop :=
  BxAt W A [.bool b, s, d] ∧ BxAt W (A + 1) [.bool false, .slice none 0 0, .slice none 0 0] ∧ Frp W b s d q
theorem GSt.later {W W1 : World} {A : Nat} {b : Bool} {s d : Value} {q : Rat} (h : GSt W A b s d q) (hb : Below W.heap.size W W1) : GSt W1 A b s d q := ⟨h.1.later hb, h.2.1.later hb, h.2.2.later hb⟩
theorem GSt.once {W : World} {A : Nat} {b : Bool} {p1 p2 : Option Addr} {n1 n2 c1 c2 : Nat} {q : Rat} (h : GSt W A b (.slice p1 n1 c1) (.slice p2 n2 c2) q) : GSt (set3 W A (.bool b) (.slice p1 n1 c1) (.slice p2 n2 c2)) A b (.slice p1 n1 c1) (.slice p2 n2 c2) q :=
  ⟨h.1.put3 _ _ _, h.2.1.far3 _ _ _ (by omega), h.2.2.store3 _ _ _ h.1⟩
theorem GSt.cells {W : World} {A : Nat} {b : Bool} {s d : Value} {q : Rat} (h : GSt W A b s d q) : W.cell? ⟨A, 0, none⟩ = some (.bool b) ∧ W.cell? ⟨A, 1, none⟩ = some s ∧ W.cell? ⟨A, 2, none⟩ = some d :=
  ⟨h.1.2.2 0 _ rfl, h.1.2.2 1 _ rfl, h.1.2.2 2 _ rfl⟩
theorem GSt.far {W : World} {A : Nat} {b : Bool} {s d : Value} {q : Rat} (h : GSt W A b s d q) (x y z : Value) : (set3 W (A + 1) x y z).cell? ⟨A, 0, none⟩ = some (.bool b) ∧ (set3 W (A + 1) x y z).cell? ⟨A, 1, none⟩ = some s ∧ (set3 W (A + 1) x y z).cell? ⟨A, 2, none⟩ = some d := by
  have h1 := h.1.far3 (g' := A + 1) x y z (by omega)
  exact ⟨h1.2.2 0 _ rfl, h1.2.2 1 _ rfl, h1.2.2 2 _ rfl⟩
theorem neg_rat (q : Rat) : mkRat (-q.num) q.den = -q := by rw [← Rat.neg_mkRat, Rat.mkRat_self]
set_option maxRecDepth 100000 in
set_option maxHeartbeats 6400000 in
theorem FNeg_any (b : Bool) (s d : Value) (q : Rat) (w : World) (hn : Small q.num.natAbs) (hd : Small q.den) (h : Frp w b s d q) :
    Calls Try.prog 104 #[.agg #[.bool b, s, d]] w (FrPost (-q) w) := by
  obtain ⟨⟨p1, n1, c1, rfl⟩, p2, n2, c2, rfl⟩ := h.forms
  have SN := Lib.hid hn
  have SNN : Hid (Small (-q.num).natAbs) := Lib.hid (by rw [Int.natAbs_neg]; exact hn)
  have SD := Lib.hid hd
  have NR := Lib.hid (neg_rat q)
  have DP := Lib.hid q.den_pos
  obtain ⟨w0, hw0⟩ : ∃ w0, (w.alloc (.cells #[.bool b, .slice p1 n1 c1, .slice p2 n2 c2] 106)).alloc (.cells #[.bool false, .slice none 0 0, .slice none 0 0] 106) = w0 := ⟨_, rfl⟩
  have G0 : Hid (GSt w0 w.heap.size b (.slice p1 n1 c1) (.slice p2 n2 c2) q) := Lib.hid (by rw [← hw0]; exact ⟨bx_a w _ _ _, bx_b w _ _ _, h.later (bel2 _ _ _)⟩)
  have B0 : Hid (Below w.heap.size w w0) := Lib.hid (by rw [← hw0]; exact bel2 _ _ _)
  clear h hn hd
  have a0 := G0.out.1.2.2 0 _ rfl
  have a1 := G0.out.1.2.2 1 _ rfl
  have a2 := G0.out.1.2.2 2 _ rfl
  go_enter Try.func104, Try.ntmps104
  go_wp2_with fail
  clear hw0 a0 a1 a2
  refine (worth_any b _ _ q.den _ SD.out DP.out (isSl _ _ _) G0.out.2.2.2).mono ?_
  rintro e w1 ⟨rfl, hb1⟩
  have G1 := Lib.hid (G0.out.later hb1)
  have B1 := Lib.hid (bthen B0.out hb1)
  clear hb1
  have a0 := G1.out.1.2.2 0 _ rfl
  have a1 := G1.out.1.2.2 1 _ rfl
  have a2 := G1.out.1.2.2 2 _ rfl
  have af := G1.out.1.2.1
  go_wp2_with fail
  obtain ⟨wc, hwc⟩ : ∃ wc, wc = ((w1.setCell ⟨w.heap.size, 0, none⟩ (.bool b)).setCell ⟨w.heap.size, 1, none⟩ (.slice p1 n1 c1)).setCell ⟨w.heap.size, 2, none⟩ (.slice p2 n2 c2) := ⟨_, rfl⟩
  rw [← hwc]
  have G2 : Hid (GSt wc w.heap.size b (.slice p1 n1 c1) (.slice p2 n2 c2) q) := Lib.hid (by rw [hwc]; exact G1.out.once)
  have B2 : Hid (Below w.heap.size w wc) := Lib.hid (by rw [hwc]; exact below_store3 B1.out (Nat.le_refl _) _ _ _)
  clear hwc a0 a1 a2 af G1 B1 G0 B0
  have N1 : Hid (Whp wc b (.slice p1 n1 c1) q.num) := Lib.hid G2.out.2.2.1
  have D1 : Hid (Nt wc (.slice p2 n2 c2) q.den) := Lib.hid G2.out.2.2.2
  have F2 := G2.out
  have k : Below wc.heap.size wc wc := Below.refl _ _
  go_region_held3 (fun w' => w'.cell? ⟨w.heap.size, 0, none⟩ = some (.bool b) ∧ w'.cell? ⟨w.heap.size, 1, none⟩ = some (.slice p1 n1 c1) ∧ w'.cell? ⟨w.heap.size, 2, none⟩ = some (.slice p2 n2 c2))
    (first | with_reducible exact F2.cells | with_reducible exact F2.far _ _ _ | exact F2.cells)
    (first
      | (go_at_call 111; (with_reducible refine (Neg_any b _ q.num _ SN.out N1.out.drew).mono ?_); rintro e v1 ⟨⟨bp, sp, rfl, P1⟩, hb⟩; obtain ⟨pr, nr, cr, rfl⟩ := P1.form; have k : Below wc.heap.size wc v1 := bel_drew hb; have F2 := G2.out.later k)
      | (go_at_call 86; (with_reducible refine (FReduce_any bp _ _ (-q.num) q.den _ SNN.out SD.out DP.out P1 (D1.out.later k)).mono ?_); rintro e v7 ⟨⟨bz, sz, dz, rfl, P5⟩, hb⟩; obtain ⟨⟨pz, nz, cz, rfl⟩, py, ny, cy, rfl⟩ := P5.forms; have k := bthen k hb; have F2 := G2.out.later k; have R7 := F2.2.1; have r0 := R7.2.2 0 _ rfl; have r1 := R7.2.2 1 _ rfl; have r2 := R7.2.2 2 _ rfl; have rf := R7.2.1))
  all_goals go_wp2_with fail
  rw [NR.out] at P5
  refine bodyPost_ret (v := .agg #[.bool bz, .slice pz nz cz, .slice py ny cy]) ?_ rfl ⟨⟨_, _, _, rfl, P5.store3 _ _ _ R7⟩, below_store3 (bthen B2.out k) (by omega) _ _ _⟩
  clear F2 k R7 P5
  simp [results, Try.results104, go_sem, r0, r1, r2]
theorem AddOk.neg {p q : Rat} (h : AddOk p q) : AddOk p (-q) := by
  unfold AddOk at *
  simpa using h
theorem sub_rat (p q : Rat) : p + -q = p - q := (Rat.sub_eq_add_neg p q).symm
set_option maxRecDepth 100000 in
set_option maxHeartbeats 6400000 in
theorem FSub_any (b : Bool) (s d : Value) (c : Bool) (t f : Value) (p q : Rat) (w : World) (hok : AddOk p q) (h : Frp w b s d p) (h2 : Frp w c t f q) :
    Calls Try.prog 94 #[.agg #[.bool b, s, d], .agg #[.bool c, t, f]] w (FrPost (p - q) w) := by
  obtain ⟨⟨p1, n1, c1, rfl⟩, p2, n2, c2, rfl⟩ := h.forms
  obtain ⟨⟨p3, n3, c3, rfl⟩, p4, n4, c4, rfl⟩ := h2.forms
  have SM := Lib.hid hok.all
  have OKN := Lib.hid hok.neg
  have SUM := Lib.hid (sub_rat p q)
  obtain ⟨w0, hw0, f0, b0⟩ := FSt.new w b _ _ c _ _ p q h h2
  have F0 := Lib.hid f0
  have B0 := Lib.hid b0
  clear h h2 hok f0 b0
  go_enter Try.func94, Try.ntmps94
  go_wp2_with fail
  clear hw0
  have Q1 : Hid (Frp w0 b (.slice p1 n1 c1) (.slice p2 n2 c2) p) := Lib.hid F0.out.2.2.2.1
  have Q2 : Hid (Frp w0 c (.slice p3 n3 c3) (.slice p4 n4 c4) q) := Lib.hid F0.out.2.2.2.2
  have F2 := F0.out
  have k : Below w0.heap.size w0 w0 := Below.refl _ _
  go_region_held3 (fun w' => w'.cell? ⟨w.heap.size, 0, none⟩ = some (.bool b) ∧ w'.cell? ⟨w.heap.size, 1, none⟩ = some (.slice p1 n1 c1) ∧ w'.cell? ⟨w.heap.size, 2, none⟩ = some (.slice p2 n2 c2) ∧ w'.cell? ⟨w.heap.size + 1, 0, none⟩ = some (.bool c) ∧ w'.cell? ⟨w.heap.size + 1, 1, none⟩ = some (.slice p3 n3 c3) ∧ w'.cell? ⟨w.heap.size + 1, 2, none⟩ = some (.slice p4 n4 c4))
    (first | with_reducible exact F2.cells | with_reducible exact F2.far _ _ _ | exact F2.cells)
    (first
      | (go_at_call 104; (with_reducible refine (FNeg_any c _ _ q _ SM.out.1.2.1 SM.out.1.2.2.2 Q2.out.drew).mono ?_); rintro e v1 ⟨⟨bp, sp, dp, rfl, P1⟩, hb⟩; have k : Below w0.heap.size w0 v1 := bel_drew hb; have F2 := F0.out.later k)
      | (go_at_call 67; (with_reducible refine (FAdd_any b _ _ bp sp dp p (-q) _ OKN.out (Q1.out.later k) P1).mono ?_); rintro e v7 ⟨⟨bz, sz, dz, rfl, P5⟩, hb⟩; obtain ⟨⟨pz, nz, cz, rfl⟩, py, ny, cy, rfl⟩ := P5.forms; have k := bthen k hb; have F2 := F0.out.later k; have R7 := F2.2.2.1; have r0 := R7.2.2 0 _ rfl; have r1 := R7.2.2 1 _ rfl; have r2 := R7.2.2 2 _ rfl; have rf := R7.2.1))
  all_goals go_wp2_with fail
  rw [SUM.out] at P5
  refine bodyPost_ret (v := .agg #[.bool bz, .slice pz nz cz, .slice py ny cy]) ?_ rfl ⟨⟨_, _, _, rfl, P5.store3 _ _ _ R7⟩, below_store3 (bthen B0.out k) (by omega) _ _ _⟩
  clear F2 k R7 P5
  simp [results, Try.results94, go_sem, r0, r1, r2]
def MulOk (a b : Rat) : Prop := a.num.natAbs ≤ Q62 ∧ b.num.natAbs ≤ Q62 ∧ a.num.natAbs * b.num.natAbs ≤ Q62 ∧ a.den * b.den ≤ Q62
theorem MulOk.all {a b : Rat} (h : MulOk a b) : (Small a.num.natAbs ∧ Small b.num.natAbs ∧ Small a.den ∧ Small b.den) ∧ Small (a.num * b.num).natAbs ∧ Small (a.den * b.den) := by
  obtain ⟨h1, h2, h3, h4⟩ := h
  have e3 := Nat.le_mul_of_pos_right a.den b.den_pos
  have e4 := Nat.le_mul_of_pos_left b.den a.den_pos
  exact ⟨⟨Small.q h1, Small.q h2, Small.q (by omega), Small.q (by omega)⟩, Small.q (by rw [Int.natAbs_mul]; exact h3), Small.q h4⟩
set_option maxRecDepth 100000 in
set_option maxHeartbeats 6400000 in
theorem FMul_any (b : Bool) (s d : Value) (c : Bool) (t f : Value) (p q : Rat) (w : World) (hok : MulOk p q) (h : Frp w b s d p) (h2 : Frp w c t f q) :
    Calls Try.prog 68 #[.agg #[.bool b, s, d], .agg #[.bool c, t, f]] w (FrPost (p * q) w) := by
  obtain ⟨⟨p1, n1, c1, rfl⟩, p2, n2, c2, rfl⟩ := h.forms
  obtain ⟨⟨p3, n3, c3, rfl⟩, p4, n4, c4, rfl⟩ := h2.forms
  have SM := Lib.hid hok.all
  have DP := Lib.hid (And.intro p.den_pos q.den_pos)
  have SUM := Lib.hid (Rat.mul_def' p q).symm
  have DPP : Hid (0 < p.den * q.den) := Lib.hid (Nat.mul_pos p.den_pos q.den_pos)
  obtain ⟨w0, hw0, f0, b0⟩ := FSt.new w b _ _ c _ _ p q h h2
  have F0 := Lib.hid f0
  have B0 := Lib.hid b0
  clear h h2 hok f0 b0
  go_enter Try.func68, Try.ntmps68
  go_wp2_with fail
  clear hw0
  go_cut [5] (fun _ wx => FSt wx w.heap.size b (.slice p1 n1 c1) (.slice p2 n2 c2) c (.slice p3 n3 c3) (.slice p4 n4 c4) p q ∧ Below w.heap.size w wx)
  case first =>
    have F2 := F0.out
    have k : Below w0.heap.size w0 w0 := Below.refl _ _
    have D1 : Hid (Nt w0 (.slice p2 n2 c2) p.den) := Lib.hid F0.out.2.2.2.1.2
    have D2 : Hid (Nt w0 (.slice p4 n4 c4) q.den) := Lib.hid F0.out.2.2.2.2.2
    go_region_held3 (fun w' => w'.cell? ⟨w.heap.size, 0, none⟩ = some (.bool b) ∧ w'.cell? ⟨w.heap.size, 1, none⟩ = some (.slice p1 n1 c1) ∧ w'.cell? ⟨w.heap.size, 2, none⟩ = some (.slice p2 n2 c2) ∧ w'.cell? ⟨w.heap.size + 1, 0, none⟩ = some (.bool c) ∧ w'.cell? ⟨w.heap.size + 1, 1, none⟩ = some (.slice p3 n3 c3) ∧ w'.cell? ⟨w.heap.size + 1, 2, none⟩ = some (.slice p4 n4 c4))
      (first | with_reducible exact F2.cells | with_reducible exact F2.once.cells | with_reducible exact F2.again.cells | exact F2.cells)
      (first
        | (go_at_call 76; (with_reducible refine (worth_any b _ _ p.den _ SM.out.1.2.2.1 DP.out.1 (isSl _ _ _) D1.out.drew).mono ?_); rintro e v1 ⟨rfl, hb⟩; have k : Below w0.heap.size w0 v1 := bel_drew hb; have F2 := F0.out.later k)
        | (go_at_call 76; (with_reducible refine (worth_any c _ _ q.den _ SM.out.1.2.2.2 DP.out.2 (isSl _ _ _) (D2.out.later k)).mono ?_); rintro e v2 ⟨rfl, hb⟩; have k := bthen k hb; have F2 := F0.out.later k; have g0 := F2.1.2.2 0 _ rfl; have g1 := F2.1.2.2 1 _ rfl; have g2 := F2.1.2.2 2 _ rfl; have gf := F2.1.2.1; have j0 := F2.2.1.2.2 0 _ rfl; have j1 := F2.2.1.2.2 1 _ rfl; have j2 := F2.2.1.2.2 2 _ rfl; have jf := F2.2.1.2.1))
    all_goals go_wp2_with fail
    all_goals go_meet
    exact ⟨F2.again, below_store3 (below_store3 (bthen B0.out k) (Nat.le_refl _) _ _ _) (by omega) _ _ _⟩
  case rest =>
    obtain ⟨f1, b1⟩ := hcut
    have F1 := Lib.hid f1
    have B1 := Lib.hid b1
    have N1 : Hid (Whp wc b (.slice p1 n1 c1) p.num) := Lib.hid f1.2.2.2.1.1
    have N2 : Hid (Whp wc c (.slice p3 n3 c3) q.num) := Lib.hid f1.2.2.2.2.1
    have D1 : Hid (Nt wc (.slice p2 n2 c2) p.den) := Lib.hid f1.2.2.2.1.2
    have D2 : Hid (Nt wc (.slice p4 n4 c4) q.den) := Lib.hid f1.2.2.2.2.2
    have F2 := f1
    have k : Below wc.heap.size wc wc := Below.refl _ _
    clear f1 b1 F0 B0
    go_wp2_with fail
    go_region_held3 (fun w' => w'.cell? ⟨w.heap.size, 0, none⟩ = some (.bool b) ∧ w'.cell? ⟨w.heap.size, 1, none⟩ = some (.slice p1 n1 c1) ∧ w'.cell? ⟨w.heap.size, 2, none⟩ = some (.slice p2 n2 c2) ∧ w'.cell? ⟨w.heap.size + 1, 0, none⟩ = some (.bool c) ∧ w'.cell? ⟨w.heap.size + 1, 1, none⟩ = some (.slice p3 n3 c3) ∧ w'.cell? ⟨w.heap.size + 1, 2, none⟩ = some (.slice p4 n4 c4))
      (first | with_reducible exact F2.cells | with_reducible exact F2.far _ _ _ | exact F2.cells)
      (first
        | (go_at_call 78; (with_reducible refine (WMul_any b c _ _ p.num q.num _ SM.out.1.1 SM.out.1.2.1 SM.out.2.1 N1.out.drew N2.out.drew).mono ?_); rintro e v2 ⟨⟨bp, sp, rfl, P1⟩, hb⟩; obtain ⟨pr, nr, cr, rfl⟩ := P1.form; have k : Below wc.heap.size wc v2 := bel_drew hb; have F2 := F1.out.later k)
        | (go_at_call 88; (with_reducible refine (Mul_any _ _ p.den q.den _ SM.out.1.2.2.1 SM.out.1.2.2.2 (D1.out.later k) (D2.out.later k)).mono ?_); rintro e v6 ⟨⟨dm, rfl, P4⟩, hb⟩; obtain ⟨pm, nm, cm, rfl⟩ := P4.form; have P1 := P1.later hb; have k := bthen k hb; have F2 := F1.out.later k)
        | (go_at_call 86; (with_reducible refine (FReduce_any bp _ _ (p.num * q.num) (p.den * q.den) _ SM.out.2.1 SM.out.2.2 DPP.out P1 P4).mono ?_); rintro e v7 ⟨⟨bz, sz, dz, rfl, P5⟩, hb⟩; obtain ⟨⟨pz, nz, cz, rfl⟩, py, ny, cy, rfl⟩ := P5.forms; have k := bthen k hb; have F2 := F1.out.later k; have R7 := F2.2.2.1; have r0 := R7.2.2 0 _ rfl; have r1 := R7.2.2 1 _ rfl; have r2 := R7.2.2 2 _ rfl; have rf := R7.2.1))
    all_goals go_wp2_with fail
    rw [SUM.out] at P5
    refine bodyPost_ret (v := .agg #[.bool bz, .slice pz nz cz, .slice py ny cy]) ?_ rfl ⟨⟨_, _, _, rfl, P5.store3 _ _ _ R7⟩, below_store3 (bthen B1.out k) (by omega) _ _ _⟩
    clear F2 k R7 P5
    simp [results, Try.results68, go_sem, r0, r1, r2]
end Go.Proofs.Ytbmbibjidpgbnaa
