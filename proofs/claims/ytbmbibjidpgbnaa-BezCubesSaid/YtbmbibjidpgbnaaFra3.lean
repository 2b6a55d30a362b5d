/- Contracts of the reference's fractions: Add. -/
import Derived.Test.YtbmbibjidpgbnaaFra2
namespace Go.Proofs.Ytbmbibjidpgbnaa
open Go.RowKit

def Q62 : Nat := 4611686018427387904
theorem Small.q {a : Nat} (h : a ≤ Q62) : Small a := Small.of (by unfold Q62 at h; omega)
theorem whp_nat {w : World} {d : Value} {n : Nat} (h : Nt w d n) : Whp w false d (n : Int) := ⟨by simp, by simpa using h⟩
theorem isSl (p : Option Addr) (n c : Nat) : ∃ p' n' c', Value.slice p n c = .slice p' n' c' := ⟨p, n, c, rfl⟩
theorem set_same {w : World} {a p : Addr} {u x : Value} (h : w.cell? a = some u) (h2 : w.cell? p = some x) : (w.setCell p x).cell? a = some u := by
  by_cases e : p = a
  · subst e
    rw [World.cell?_setCell_same _ _ _ h2, ← h, h2]
  · rw [World.cell?_setCell_other _ _ _ _ e]; exact h
theorem set3_same {w : World} {a : Addr} {u x y z : Value} {g : Nat} (h : w.cell? a = some u) (h0 : w.cell? ⟨g, 0, none⟩ = some x) (h1 : w.cell? ⟨g, 1, none⟩ = some y) (h2 : w.cell? ⟨g, 2, none⟩ = some z) :
    (((w.setCell ⟨g, 0, none⟩ x).setCell ⟨g, 1, none⟩ y).setCell ⟨g, 2, none⟩ z).cell? a = some u :=
  set_same (set_same (set_same h h0) (set_same h1 h0)) (set_same (set_same h2 h0) (set_same h1 h0))
theorem cell3_far {w : World} {a i g : Nat} {u x y z : Value} (h : w.cell? ⟨a, i, none⟩ = some u) (hne : g ≠ a) : (((w.setCell ⟨g, 0, none⟩ x).setCell ⟨g, 1, none⟩ y).setCell ⟨g, 2, none⟩ z).cell? ⟨a, i, none⟩ = some u := by
  rw [World.cell?_setCell_other]
  · exact cell2_far h hne
  · intro e; simp only [Addr.mk.injEq] at e; omega
/-- the boxes of two fractions, and the result's -/
def FSt (W : World) (A : Nat) (b : Bool) (s d : Value) (c : Bool) (t f : Value) (p q : Rat) : Prop :=
  BxAt W A [.bool b, s, d] ∧ BxAt W (A + 1) [.bool c, t, f] ∧ BxAt W (A + 1 + 1) [.bool false, .slice none 0 0, .slice none 0 0] ∧ Frp W b s d p ∧ Frp W c t f q
theorem FSt.later {W W1 : World} {A : Nat} {b : Bool} {s d : Value} {c : Bool} {t f : Value} {p q : Rat} (h : FSt W A b s d c t f p q) (hb : Below W.heap.size W W1) : FSt W1 A b s d c t f p q :=
  ⟨h.1.later hb, h.2.1.later hb, h.2.2.1.later hb, h.2.2.2.1.later hb, h.2.2.2.2.later hb⟩
theorem FSt.new (w : World) (b : Bool) (s d : Value) (c : Bool) (t f : Value) (p q : Rat) (h : Frp w b s d p) (h2 : Frp w c t f q) : ∃ w0, (((w.alloc (.cells #[.bool b, s, d] 106)).alloc (.cells #[.bool c, t, f] 106)).alloc (.cells #[.bool false, .slice none 0 0, .slice none 0 0] 106)) = w0 ∧ FSt w0 w.heap.size b s d c t f p q ∧ Below w.heap.size w w0 :=
  ⟨_, rfl, ⟨bx3_a w _ _ _ _, bx3_b w _ _ _ _, bx3_c w _ _ _ _, h.later (bel3 _ _ _ _), h2.later (bel3 _ _ _ _)⟩, bel3 _ _ _ _⟩
/-- the first one, then both are stored again as they were -/
theorem FSt.once {W : World} {A : Nat} {b : Bool} {p1 p2 p3 p4 : Option Addr} {n1 n2 n3 n4 c1 c2 c3 c4 : Nat} {c : Bool} {p q : Rat} (h : FSt W A b (.slice p1 n1 c1) (.slice p2 n2 c2) c (.slice p3 n3 c3) (.slice p4 n4 c4) p q) :
    FSt (set3 W A (.bool b) (.slice p1 n1 c1) (.slice p2 n2 c2)) A b (.slice p1 n1 c1) (.slice p2 n2 c2) c (.slice p3 n3 c3) (.slice p4 n4 c4) p q := by
  obtain ⟨h1, h2, h3, h4, h5⟩ := h
  exact ⟨h1.put3 _ _ _, h2.far3 _ _ _ (by omega), h3.far3 _ _ _ (by omega), h4.store3 _ _ _ h1, h5.store3 _ _ _ h1⟩
theorem FSt.again {W : World} {A : Nat} {b : Bool} {p1 p2 p3 p4 : Option Addr} {n1 n2 n3 n4 c1 c2 c3 c4 : Nat} {c : Bool} {p q : Rat} (h : FSt W A b (.slice p1 n1 c1) (.slice p2 n2 c2) c (.slice p3 n3 c3) (.slice p4 n4 c4) p q) :
    FSt (set3 (set3 W A (.bool b) (.slice p1 n1 c1) (.slice p2 n2 c2)) (A + 1) (.bool c) (.slice p3 n3 c3) (.slice p4 n4 c4)) A b (.slice p1 n1 c1) (.slice p2 n2 c2) c (.slice p3 n3 c3) (.slice p4 n4 c4) p q := by
  obtain ⟨h1, h2, h3, h4, h5⟩ := h.once
  exact ⟨h1.far3 _ _ _ (by omega), h2.put3 _ _ _, h3.far3 _ _ _ (by omega), h4.store3 _ _ _ h2, h5.store3 _ _ _ h2⟩
theorem FSt.cells {W : World} {A : Nat} {b : Bool} {s d : Value} {c : Bool} {t f : Value} {p q : Rat} (h : FSt W A b s d c t f p q) :
    W.cell? ⟨A, 0, none⟩ = some (.bool b) ∧ W.cell? ⟨A, 1, none⟩ = some s ∧ W.cell? ⟨A, 2, none⟩ = some d ∧ W.cell? ⟨A + 1, 0, none⟩ = some (.bool c) ∧ W.cell? ⟨A + 1, 1, none⟩ = some t ∧ W.cell? ⟨A + 1, 2, none⟩ = some f :=
  ⟨h.1.2.2 0 _ rfl, h.1.2.2 1 _ rfl, h.1.2.2 2 _ rfl, h.2.1.2.2 0 _ rfl, h.2.1.2.2 1 _ rfl, h.2.1.2.2 2 _ rfl⟩
theorem FSt.far {W : World} {A : Nat} {b : Bool} {s d : Value} {c : Bool} {t f : Value} {p q : Rat} (h : FSt W A b s d c t f p q) (x y z : Value) :
    (set3 W (A + 1 + 1) x y z).cell? ⟨A, 0, none⟩ = some (.bool b) ∧ (set3 W (A + 1 + 1) x y z).cell? ⟨A, 1, none⟩ = some s ∧ (set3 W (A + 1 + 1) x y z).cell? ⟨A, 2, none⟩ = some d ∧ (set3 W (A + 1 + 1) x y z).cell? ⟨A + 1, 0, none⟩ = some (.bool c) ∧ (set3 W (A + 1 + 1) x y z).cell? ⟨A + 1, 1, none⟩ = some t ∧ (set3 W (A + 1 + 1) x y z).cell? ⟨A + 1, 2, none⟩ = some f := by
  have h1 := h.1.far3 (g' := A + 1 + 1) x y z (by omega)
  have h2 := h.2.1.far3 (g' := A + 1 + 1) x y z (by omega)
  exact ⟨h1.2.2 0 _ rfl, h1.2.2 1 _ rfl, h1.2.2 2 _ rfl, h2.2.2 0 _ rfl, h2.2.2 1 _ rfl, h2.2.2 2 _ rfl⟩
theorem Frp.forms {w : World} {b : Bool} {s d : Value} {q : Rat} (h : Frp w b s d q) : (∃ p n c, s = .slice p n c) ∧ ∃ p n c, d = .slice p n c := ⟨h.1.form, h.2.form⟩
def AddOk (a b : Rat) : Prop := a.num.natAbs * b.den + b.num.natAbs * a.den ≤ Q62 ∧ a.den * b.den ≤ Q62
theorem AddOk.all {a b : Rat} (h : AddOk a b) : (Small a.num.natAbs ∧ Small b.num.natAbs ∧ Small a.den ∧ Small b.den) ∧ (Small ((a.den : Int)).natAbs ∧ Small ((b.den : Int)).natAbs) ∧ Small (a.num * (b.den : Int)).natAbs ∧ Small (b.num * (a.den : Int)).natAbs ∧ Small (a.num * (b.den : Int) + b.num * (a.den : Int)).natAbs ∧ Small (a.den * b.den) := by
  obtain ⟨h1, h2⟩ := h
  have pa := a.den_pos
  have pb := b.den_pos
  have e1 := Nat.le_mul_of_pos_right a.num.natAbs pb
  have e2 := Nat.le_mul_of_pos_right b.num.natAbs pa
  have e3 := Nat.le_mul_of_pos_right a.den pb
  have e4 := Nat.le_mul_of_pos_left b.den pa
  have m1 : (a.num * (b.den : Int)).natAbs = a.num.natAbs * b.den := by rw [Int.natAbs_mul, Int.natAbs_natCast]
  have m2 : (b.num * (a.den : Int)).natAbs = b.num.natAbs * a.den := by rw [Int.natAbs_mul, Int.natAbs_natCast]
  have m3 := Int.natAbs_add_le (a.num * (b.den : Int)) (b.num * (a.den : Int))
  refine ⟨⟨Small.q (by omega), Small.q (by omega), Small.q (by omega), Small.q (by omega)⟩, ⟨Small.q (by simp; omega), Small.q (by simp; omega)⟩, Small.q (by omega), Small.q (by omega), Small.q (by omega), Small.q h2⟩
set_option maxRecDepth 100000 in
set_option maxHeartbeats 6400000 in
theorem FAdd_any (b : Bool) (s d : Value) (c : Bool) (t f : Value) (p q : Rat) (w : World) (hok : AddOk p q) (h : Frp w b s d p) (h2 : Frp w c t f q) :
    Calls Try.prog 67 #[.agg #[.bool b, s, d], .agg #[.bool c, t, f]] w (FrPost (p + q) w) := by
  obtain ⟨⟨p1, n1, c1, rfl⟩, p2, n2, c2, rfl⟩ := h.forms
  obtain ⟨⟨p3, n3, c3, rfl⟩, p4, n4, c4, rfl⟩ := h2.forms
  have SM := Lib.hid hok.all
  have DP := Lib.hid (And.intro p.den_pos q.den_pos)
  have SUM := Lib.hid (Rat.add_def' p q).symm
  obtain ⟨w0, hw0, f0, b0⟩ := FSt.new w b _ _ c _ _ p q h h2
  have F0 := Lib.hid f0
  have B0 := Lib.hid b0
  clear h h2 hok f0 b0
  go_enter Try.func67, Try.ntmps67
  go_wp2_with fail
  clear hw0
  go_cut [5] (fun _ wx => FSt wx w.heap.size b (.slice p1 n1 c1) (.slice p2 n2 c2) c (.slice p3 n3 c3) (.slice p4 n4 c4) p q ∧ Below w.heap.size w wx)
  case first =>
    have F2 := F0.out
    have k : Below w0.heap.size w0 w0 := Below.refl _ _
    have D1 : Hid (Nt w0 (.slice p2 n2 c2) p.den) := Lib.hid F0.out.2.2.2.1.2
    have D2 : Hid (Nt w0 (.slice p4 n4 c4) q.den) := Lib.hid F0.out.2.2.2.2.2
    go_region_held3 (fun w' => w'.cell? ⟨w.heap.size, 0, none⟩ = some (.bool b) ∧ w'.cell? ⟨w.heap.size, 1, none⟩ = some (.slice p1 n1 c1) ∧ w'.cell? ⟨w.heap.size, 2, none⟩ = some (.slice p2 n2 c2) ∧ w'.cell? ⟨w.heap.size + 1, 0, none⟩ = some (.bool c) ∧ w'.cell? ⟨w.heap.size + 1, 1, none⟩ = some (.slice p3 n3 c3) ∧ w'.cell? ⟨w.heap.size + 1, 2, none⟩ = some (.slice p4 n4 c4))
      (first | with_reducible exact F2.cells | with_reducible exact F2.once.cells | with_reducible exact F2.again.cells | exact F2.cells)
      (first
        | (go_at_call 76; (with_reducible refine (worth_any b _ _ p.den _ SM.out.1.2.2.1 DP.out.1 (isSl _ _ _) D1.out.drew).mono ?_); rintro e v1 ⟨rfl, hb⟩; have k : Below w0.heap.size w0 v1 := bel_drew hb; have F2 := F0.out.later k)
        | (go_at_call 76; (with_reducible refine (worth_any c _ _ q.den _ SM.out.1.2.2.2 DP.out.2 (isSl _ _ _) (D2.out.later k)).mono ?_); rintro e v2 ⟨rfl, hb⟩; have k := bthen k hb; have F2 := F0.out.later k; have g0 := F2.1.2.2 0 _ rfl; have g1 := F2.1.2.2 1 _ rfl; have g2 := F2.1.2.2 2 _ rfl; have gf := F2.1.2.1; have j0 := F2.2.1.2.2 0 _ rfl; have j1 := F2.2.1.2.2 1 _ rfl; have j2 := F2.2.1.2.2 2 _ rfl; have jf := F2.2.1.2.1))
    all_goals go_wp2_with fail
    all_goals go_meet
    exact ⟨F2.again, below_store3 (below_store3 (bthen B0.out k) (Nat.le_refl _) _ _ _) (by omega) _ _ _⟩
  case rest =>
    obtain ⟨f1, b1⟩ := hcut
    have F1 := Lib.hid f1
    have B1 := Lib.hid b1
    have N1 : Hid (Whp wc b (.slice p1 n1 c1) p.num) := Lib.hid f1.2.2.2.1.1
    have N2 : Hid (Whp wc c (.slice p3 n3 c3) q.num) := Lib.hid f1.2.2.2.2.1
    have D1 : Hid (Nt wc (.slice p2 n2 c2) p.den) := Lib.hid f1.2.2.2.1.2
    have D2 : Hid (Nt wc (.slice p4 n4 c4) q.den) := Lib.hid f1.2.2.2.2.2
    have F2 := f1
    have k : Below wc.heap.size wc wc := Below.refl _ _
    have DPP : Hid (0 < p.den * q.den) := Lib.hid (Nat.mul_pos DP.out.1 DP.out.2)
    clear f1 b1 F0 B0
    go_wp2_with fail
    go_region_held3 (fun w' => w'.cell? ⟨w.heap.size, 0, none⟩ = some (.bool b) ∧ w'.cell? ⟨w.heap.size, 1, none⟩ = some (.slice p1 n1 c1) ∧ w'.cell? ⟨w.heap.size, 2, none⟩ = some (.slice p2 n2 c2) ∧ w'.cell? ⟨w.heap.size + 1, 0, none⟩ = some (.bool c) ∧ w'.cell? ⟨w.heap.size + 1, 1, none⟩ = some (.slice p3 n3 c3) ∧ w'.cell? ⟨w.heap.size + 1, 2, none⟩ = some (.slice p4 n4 c4))
      (first | with_reducible exact F2.cells | with_reducible exact F2.far _ _ _ | exact F2.cells)
      (first
        | (go_at_call 79; (with_reducible refine (up_any c (.slice p3 n3 c3) (.slice p4 n4 c4) q.den _ D2.out.drew).mono ?_); rintro e v1 ⟨rfl, hb⟩; have k : Below wc.heap.size wc v1 := bel_drew hb; have F2 := F1.out.later k)
        | (go_at_call 78; (with_reducible refine (WMul_any b false _ _ p.num (q.den : Int) _ SM.out.1.1 SM.out.2.1.2 SM.out.2.2.1 (N1.out.later k) (whp_nat (D2.out.later k))).mono ?_); rintro e v2 ⟨⟨bp, sp, rfl, P1⟩, hb⟩; have k := bthen k hb; have F2 := F1.out.later k)
        | (go_at_call 79; (with_reducible refine (up_any b (.slice p1 n1 c1) (.slice p2 n2 c2) p.den _ (D1.out.later k)).mono ?_); rintro e v3 ⟨rfl, hb⟩; have P1 := P1.later hb; have k := bthen k hb; have F2 := F1.out.later k)
        | (go_at_call 78; (with_reducible refine (WMul_any c false _ _ q.num (p.den : Int) _ SM.out.1.2.1 SM.out.2.1.1 SM.out.2.2.2.1 (N2.out.later k) (whp_nat (D1.out.later k))).mono ?_); rintro e v4 ⟨⟨bq, sq, rfl, P2⟩, hb⟩; have P1 := P1.later hb; have k := bthen k hb; have F2 := F1.out.later k)
        | (go_at_call 87; (with_reducible refine (WAdd_any bp bq sp sq (p.num * (q.den : Int)) (q.num * (p.den : Int)) _ SM.out.2.2.1 SM.out.2.2.2.1 SM.out.2.2.2.2.1 P1 P2).mono ?_); rintro e v5 ⟨⟨br, sr, rfl, P3⟩, hb⟩; obtain ⟨pr, nr, cr, rfl⟩ := P3.form; have k := bthen k hb; have F2 := F1.out.later k)
        | (go_at_call 88; (with_reducible refine (Mul_any _ _ p.den q.den _ SM.out.1.2.2.1 SM.out.1.2.2.2 (D1.out.later k) (D2.out.later k)).mono ?_); rintro e v6 ⟨⟨dm, rfl, P4⟩, hb⟩; obtain ⟨pm, nm, cm, rfl⟩ := P4.form; have P3 := P3.later hb; have k := bthen k hb; have F2 := F1.out.later k)
        | (go_at_call 86; (with_reducible refine (FReduce_any br _ _ (p.num * (q.den : Int) + q.num * (p.den : Int)) (p.den * q.den) _ SM.out.2.2.2.2.1 SM.out.2.2.2.2.2 DPP.out P3 P4).mono ?_); rintro e v7 ⟨⟨bz, sz, dz, rfl, P5⟩, hb⟩; obtain ⟨⟨pz, nz, cz, rfl⟩, py, ny, cy, rfl⟩ := P5.forms; have k := bthen k hb; have F2 := F1.out.later k; have R7 := F2.2.2.1; have r0 := R7.2.2 0 _ rfl; have r1 := R7.2.2 1 _ rfl; have r2 := R7.2.2 2 _ rfl; have rf := R7.2.1))
    all_goals go_wp2_with fail
    rw [SUM.out] at P5
    refine bodyPost_ret (v := .agg #[.bool bz, .slice pz nz cz, .slice py ny cy]) ?_ rfl ⟨⟨_, _, _, rfl, P5.store3 _ _ _ R7⟩, below_store3 (bthen B1.out k) (by omega) _ _ _⟩
    clear F2 k R7 P5
    simp [results, Try.results67, go_sem, r0, r1, r2]
end Go.Proofs.Ytbmbibjidpgbnaa
