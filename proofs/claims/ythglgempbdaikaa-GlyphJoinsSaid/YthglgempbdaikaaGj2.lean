/- Contract of the setter's point. -/
import Derived.Test.YthglgempbdaikaaGj1
import Derived.Test.YthglgempbdaikaaPa6
import Derived.Test.YthglgempbdaikaaPb0
namespace Go.Proofs.Ythglgempbdaikaa
open Go.RowKit

/-- the setter's cells -/
abbrev stC (e : SE) (pen : Int) (v : Value) : List Value := [.int .i64 e.size, .int .i64 e.ax, .int .i64 e.ay, .int .i64 pen, v]
def PointPost (ok : Bool) (x y : Int) (w : World) (e : Ending) (w' : World) : Prop := Below w.heap.size w w' ∧ ∃ x' y', e = .returned (.tuple #[.agg #[.int .i64 x', .int .i64 y'], .bool ok]) ∧ (ok = true → x' = x ∧ y' = y)
theorem bx_both {w : World} {g : Nat} {u0 u1 : Value} (h : BxAt w g [u0, u1]) (x y : Value) : BxAt ((w.setCell ⟨g, 0, none⟩ x).setCell ⟨g, 1, none⟩ y) g [x, y] :=
  (h.put 0 x (by simp)).put 1 y (by simp)
theorem below_two {B : Nat} {w0 w : World} {g : Nat} (h : Below B w0 w) (hg : B ≤ g) (x y : Value) : Below B w0 ((w.setCell ⟨g, 0, none⟩ x).setCell ⟨g, 1, none⟩ y) :=
  (h.setCell (p := ⟨g, 0, none⟩) hg _).setCell (p := ⟨g, 1, none⟩) hg _
theorem bel_drewN (w : World) (m : Nat) : Below w.heap.size w (w.drewN m) := below_drewN (Below.refl _ _) m
theorem bx_a2 (w : World) (cs : List Value) (t : TypeId) (o : Obj) : BxAt ((w.alloc (.cells cs.toArray t)).alloc o) w.heap.size cs := (BxAt.new w cs t).later (below_alloc _ _)
theorem cell2_farB {w : World} {a i g : Nat} {u x y : Value} (h : w.cell? ⟨a, i, none⟩ = some u) (hne : g ≠ a) : ((w.setCell ⟨g, 0, none⟩ x).setCell ⟨g, 1, none⟩ y).cell? ⟨a, i, none⟩ = some u := by
  rw [World.cell?_setCell_other, World.cell?_setCell_other]
  · exact h
  · intro e; simp only [Addr.mk.injEq] at e; omega
  · intro e; simp only [Addr.mk.injEq] at e; omega
theorem fits_rng {x y : Int} (h : fits x y = true) : (-8388607 ≤ x ∧ x ≤ 8388607) ∧ (-8388607 ≤ y ∧ y ≤ 8388607) := fits_iff h
set_option maxRecDepth 100000 in
set_option maxHeartbeats 6400000 in
theorem point_any (S : Nat) (e : SE) (pen x y : Int) (v : Value) (w : World) (hS : BxAt w S (stC e pen v)) (hp : -8388607 ≤ pen ∧ pen ≤ 8388607) (hx : -8388607 ≤ x ∧ x ≤ 8388607) (hy : -8388607 ≤ y ∧ y ≤ 8388607) (hz : 0 ≤ e.size ∧ e.size ≤ 65536) (hf : fits e.ax e.ay = true) :
    Calls Try.prog 57 #[.pointer (some ⟨S, 0, none⟩), .agg #[.int .i64 x, .int .i64 y]] w (PointPost (okP e pen x y) (vX e pen x) (vY e y) w) := by
  obtain ⟨w2, hw2⟩ : ∃ w2, w2 = (w.alloc (.cells #[.int .i64 x, .int .i64 y] 42)).alloc (.cells #[.int .i64 0, .int .i64 0] 42) := ⟨_, rfl⟩
  obtain ⟨A, hA⟩ : ∃ A, A = w.heap.size := ⟨_, rfl⟩
  have X2 : Hid (BxAt w2 A [.int .i64 x, .int .i64 y]) := Lib.hid (by rw [hw2, hA]; exact bx_a2 w _ _ _)
  have R2 : Hid (BxAt w2 (A + 1) [.int .i64 0, .int .i64 0]) := Lib.hid (by rw [hw2, hA]; exact bx_b w _ _ _)
  have B2 : Hid (Below w.heap.size w w2) := Lib.hid (by rw [hw2]; exact bel2 _ _ _)
  have S2 := Lib.hid (hS.later B2.out)
  have WA := Lib.hid (And.intro hw2 hA)
  clear hw2 hA hS
  obtain ⟨q, hq⟩ : ∃ q, q = pen + x := ⟨_, rfl⟩
  have r1 : IntKind.i64.wrap (pen + x) = q := by rw [hq]; exact IntWalk.i64_in _ (by omega)
  have hq2 : -16777216 ≤ q ∧ q ≤ 16777216 := by omega
  have EX : Hid (vX e pen x = e.ax + sclI q e.size) := Lib.hid (by rw [hq]; rfl)
  have EO : Hid (okP e pen x y = (decide (q ≤ 8388607 ∧ -8388607 ≤ q) && fits (e.ax + sclI q e.size) (e.ay + sclI y e.size))) := Lib.hid (by rw [hq]; rfl)
  have EY : Hid (vY e y = e.ay + sclI y e.size) := Lib.hid rfl
  have HQ := Lib.hid hq
  clear hq
  obtain ⟨fa, fb⟩ := fits_rng hf
  have sx := scl_rng hq2 hz
  have sy := scl_rng (n := y) (size := e.size) (by omega) hz
  have SC1 := Lib.hid (fun W => scaled_any q e.size W hq2 hz)
  have SC2 := Lib.hid (fun W => scaled_any y e.size W (by omega) hz)
  obtain ⟨size, ax, ay⟩ := e
  dsimp only at *
  obtain ⟨zx, hzx⟩ : ∃ z, z = sclI q size := ⟨_, rfl⟩
  obtain ⟨zy, hzy⟩ : ∃ z, z = sclI y size := ⟨_, rfl⟩
  rw [← hzx] at SC1 sx EX EO
  rw [← hzy] at SC2 sy EY EO
  clear hzx hzy hf
  have s0 := S2.out.2.2 0 _ rfl
  have s1 := S2.out.2.2 1 _ rfl
  have s2 := S2.out.2.2 2 _ rfl
  have s3 := S2.out.2.2 3 _ rfl
  have x0 := X2.out.2.2 0 _ rfl
  have x1 := X2.out.2.2 1 _ rfl
  by_cases hb : q ≤ 8388607 ∧ -8388607 ≤ q
  · obtain ⟨hb1, hb2⟩ := hb
    have EF : Hid (okP ⟨size, ax, ay⟩ pen x y = fits (ax + zx) (ay + zy)) := Lib.hid (by rw [EO.out, decide_eq_true (⟨hb1, hb2⟩ : q ≤ 8388607 ∧ -8388607 ≤ q), Bool.true_and])
    have d1 : decide (8388607 < q) = false := decide_eq_false (by omega)
    have d2 : decide (q < -8388607) = false := decide_eq_false (by omega)
    have d3 : ¬ 8388607 < q := by omega
    have d4 : ¬ q < -8388607 := by omega
    have ra : IntKind.i64.wrap (ax + zx) = ax + zx := IntWalk.i64_in _ (by omega)
    have rb : IntKind.i64.wrap (ay + zy) = ay + zy := IntWalk.i64_in _ (by omega)
    obtain ⟨px, hpx⟩ : ∃ p, p = ax + zx := ⟨_, rfl⟩
    obtain ⟨py, hpy⟩ : ∃ p, p = ay + zy := ⟨_, rfl⟩
    have ra : IntKind.i64.wrap (ax + zx) = px := by rw [hpx]; exact ra
    have rb : IntKind.i64.wrap (ay + zy) = py := by rw [hpy]; exact rb
    rw [← hpx, ← hpy] at EF
    rw [← hpx] at EX
    rw [← hpy] at EY
    have HP := Lib.hid (And.intro hpx hpy)
    clear hpx hpy EO
    go_enter Try.func57, Try.ntmps57
    go_wp2_with fail
    rw [← WA.out.1, ← WA.out.2]
    go_quiet (fail)
    obtain ⟨w3, hw3⟩ : ∃ w3, w3 = w2.drewN nq := ⟨_, rfl⟩
    rw [← hw3]
    have b3 : Below w2.heap.size w2 w3 := by rw [hw3]; exact bel_drewN _ _
    have X3 := Lib.hid (X2.out.later b3)
    have R3 := Lib.hid (R2.out.later b3)
    have S3 := Lib.hid (S2.out.later b3)
    have B3 := Lib.hid (bthen B2.out b3)
    clear hw3 b3 s0 s1 s2 s3 x0 x1 R2 S2 X2 B2
    have s0 := S3.out.2.2 0 _ rfl
    have s1 := S3.out.2.2 1 _ rfl
    have s2 := S3.out.2.2 2 _ rfl
    have x1 := X3.out.2.2 1 _ rfl
    go_wp2_with fail
    go_region_held3 (fun w' => w'.cell? ⟨S, 0, none⟩ = some (.int .i64 size) ∧ w'.cell? ⟨S, 1, none⟩ = some (.int .i64 ax) ∧ w'.cell? ⟨S, 2, none⟩ = some (.int .i64 ay) ∧ w'.cell? ⟨A, 1, none⟩ = some (.int .i64 y))
      (first | exact ⟨s0, s1, s2, x1⟩ | (refine ⟨?_, ?_, ?_, ?_⟩ <;> (first | assumption | exact cell_alloc _ (by assumption))))
      (first
        | (go_at_call 45; (with_reducible refine (SC1.out _).mono ?_); rintro e v ⟨rfl, rfl⟩)
        | (go_at_call 45; (with_reducible refine (SC2.out _).mono ?_); rintro e v ⟨rfl, rfl⟩))
    all_goals
      rw [← HP.out.1, ← HP.out.2]
      obtain ⟨Q, hQ⟩ : ∃ Q, Q = w3.heap.size := ⟨_, rfl⟩
      obtain ⟨w4, hw4⟩ : ∃ w4, w4 = (w3.alloc (.cells #[.int .i64 px, .int .i64 py] 42)).drew := ⟨_, rfl⟩
      have Q4 : Hid (BxAt w4 Q [.int .i64 px, .int .i64 py]) := Lib.hid (by rw [hw4, hQ]; exact BxAt.new w3 _ _)
      have b4 : Below w3.heap.size w3 w4 := by rw [hw4]; exact (below_alloc w3 _).drew
      have R4 := Lib.hid (R3.out.later b4)
      have B4 := Lib.hid (bthen B3.out b4)
      have NQ : Hid (A + 1 ≠ Q) := Lib.hid (by have := R3.out.1; omega)
      rw [← hw4, ← hQ]
      obtain ⟨fit, hfit⟩ : ∃ f, f = fits px py := ⟨_, rfl⟩
      have FT : Hid (∀ W, Calls Try.prog 30 #[.agg #[.int .i64 px, .int .i64 py]] W (RetPost (.bool fit) W)) := Lib.hid (fun W => (fits_any px py W).mono (by rintro e w' ⟨rfl, h⟩; exact ⟨by rw [hfit], by rw [h]; exact below_alloc _ _⟩))
      rw [← hfit] at EF
      have HA : Hid (w.heap.size ≤ A + 1) := Lib.hid (by rw [WA.out.2]; omega)
      clear hw4 hQ b4 s0 s1 s2 x1 hfit ra rb SC1 SC2
      have q0 := Q4.out.2.2 0 _ rfl
      have q1 := Q4.out.2.2 1 _ rfl
      have t0 := R4.out.2.2 0 _ rfl
      have t1 := R4.out.2.2 1 _ rfl
      have tf := R4.out.2.1
      have k8 : Below w4.heap.size w4 w4 := Below.refl _ _
      go_wp2_with fail
      go_region_held3 (fun w' => w'.cell? ⟨Q, 0, none⟩ = some (.int .i64 px) ∧ w'.cell? ⟨Q, 1, none⟩ = some (.int .i64 py))
        (first | exact ⟨q0, q1⟩ | exact ⟨q0', q1'⟩ | exact ⟨cell2_farB q0 NQ.out, cell2_farB q1 NQ.out⟩ | exact ⟨cell2_farB q0' NQ.out, cell2_farB q1' NQ.out⟩)
        (first
          | (go_at_call 30; (with_reducible refine (FT.out w4.drew).mono ?_); rintro e v1 ⟨rfl, hb⟩; have k9 : Below w4.heap.size w4 v1 := bel_drew hb; have QV := Q4.out.later k9; have RV := R4.out.later k9; have q0' := QV.2.2 0 _ rfl; have q1' := QV.2.2 1 _ rfl; have t0' := RV.2.2 0 _ rfl; have t1' := RV.2.2 1 _ rfl; have tf' := RV.2.1)
          | (go_at_call 30; (with_reducible refine (FT.out _).mono ?_); rintro e v1 ⟨rfl, hb⟩; have BZ := Lib.hid hb; have q0' := cell_later hb (cell2_farB q0 NQ.out); have q1' := cell_later hb (cell2_farB q1 NQ.out)))
      all_goals
        have V4 := Lib.hid (bthen B4.out k9)
        have RB := bx_both RV (.int .i64 px) (.int .i64 py)
        have z0 := RB.2.2 0 _ rfl
        have z1 := RB.2.2 1 _ rfl
        have FIN : Hid (PointPost (okP ⟨size, ax, ay⟩ pen x y) (vX ⟨size, ax, ay⟩ pen x) (vY ⟨size, ax, ay⟩ y) w (.returned (.tuple #[.agg #[.int .i64 px, .int .i64 py], .bool fit])) ((v1.setCell ⟨A + 1, 0, none⟩ (.int .i64 px)).setCell ⟨A + 1, 1, none⟩ (.int .i64 py))) := Lib.hid (by
          refine ⟨below_two V4.out HA.out _ _, px, py, by rw [EF.out], fun _ => ⟨?_, ?_⟩⟩
          · exact EX.out.symm
          · exact EY.out.symm)
        clear QV RV RB
        go_wp2_with fail
        refine bodyPost_ret (v := .tuple #[.agg #[.int .i64 px, .int .i64 py], .bool fit]) ?_ rfl FIN.out
        simp [results, Try.results57, go_sem, z0, z1]
  · have EF : Hid (okP ⟨size, ax, ay⟩ pen x y = false) := Lib.hid (by rw [EO.out, decide_eq_false hb, Bool.false_and])
    have hcase : (8388607 < q ∧ decide (8388607 < q) = true) ∨ ((¬ 8388607 < q ∧ decide (8388607 < q) = false) ∧ q < -8388607 ∧ decide (q < -8388607) = true) := by
      by_cases h : 8388607 < q
      · exact Or.inl ⟨h, decide_eq_true h⟩
      · have h2 : q < -8388607 := by omega
        exact Or.inr ⟨⟨h, decide_eq_false h⟩, h2, decide_eq_true h2⟩
    have HA : Hid (w.heap.size ≤ A + 1) := Lib.hid (by rw [WA.out.2]; omega)
    have r0 := R2.out.2.2 0 _ rfl
    have r1' := R2.out.2.2 1 _ rfl
    have rf := R2.out.2.1
    rcases hcase with ⟨d1, d2⟩ | ⟨⟨d1, d2⟩, d3, d4⟩
    all_goals
      go_enter Try.func57, Try.ntmps57
      go_wp2_with fail
      rw [← WA.out.1, ← WA.out.2]
      go_quiet (fail)
      obtain ⟨w3, hw3⟩ : ∃ w3, w3 = w2.drewN nq := ⟨_, rfl⟩
      rw [← hw3]
      have b3 : Below w2.heap.size w2 w3 := by rw [hw3]; exact bel_drewN _ _
      have R3 := Lib.hid (R2.out.later b3)
      have B3 := Lib.hid (bthen B2.out b3)
      clear hw3 b3 s0 s1 s2 s3 x0 x1 r0 r1' rf
      have r0 := R3.out.2.2 0 _ rfl
      have r1' := R3.out.2.2 1 _ rfl
      have rf := R3.out.2.1
      have RB := bx_both R3.out (.int .i64 0) (.int .i64 0)
      have z0 := RB.2.2 0 _ rfl
      have z1 := RB.2.2 1 _ rfl
      have FIN : Hid (PointPost (okP ⟨size, ax, ay⟩ pen x y) (vX ⟨size, ax, ay⟩ pen x) (vY ⟨size, ax, ay⟩ y) w (.returned (.tuple #[.agg #[.int .i64 0, .int .i64 0], .bool false])) ((w3.setCell ⟨A + 1, 0, none⟩ (.int .i64 0)).setCell ⟨A + 1, 1, none⟩ (.int .i64 0))) := Lib.hid (by
        rw [EF.out]
        exact ⟨below_two B3.out HA.out _ _, 0, 0, rfl, fun h => by cases h⟩)
      clear RB
      go_wp2_with fail
      refine bodyPost_ret (v := .tuple #[.agg #[.int .i64 0, .int .i64 0], .bool false]) ?_ rfl FIN.out
      simp [results, Try.results57, go_sem, z0, z1]
end Go.Proofs.Ythglgempbdaikaa
