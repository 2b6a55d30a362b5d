/- Contracts of affine.Det and affine.Flat; the law AffineApplies. -/
import Derived.Test.YtbmbibjidpgbnaaNea3
namespace Go.Proofs.Ytbmbibjidpgbnaa
open Go.RowKit

/-- what the products of a map's factors are -/
structure DetIn (a b c d : Int) : Prop where
  w1 : IntKind.i64.wrap (a * d) = a * d
  w2 : IntKind.i64.wrap (b * c) = b * c
  w3 : IntKind.i64.wrap (a * d - b * c) = a * d - b * c
theorem detIn {a b c d e f : Int} (h : may a b c d e f = true) : DetIn a b c d := by
  obtain ⟨ha, hb, hc, hd, -⟩ := may_bd h
  have m1 := mul_bd ha hd
  have m2 := mul_bd hb hc
  simp only [Int.reduceMul, Int.reduceNeg] at m1 m2
  exact ⟨IntWalk.i64_in _ (by omega), IntWalk.i64_in _ (by omega), IntWalk.i64_in _ (by omega)⟩
theorem det_any (a b c d e f : Int) (w : World) (h : DetIn a b c d) :
    Calls Try.prog 18 #[.agg #[.int .i64 a, .int .i64 b, .int .i64 c, .int .i64 d, .int .i64 e, .int .i64 f]] w (RetPost (.int .i64 (a * d - b * c)) w) := by
  obtain ⟨w1, w2, w3⟩ := h
  go_enter Try.func18, Try.ntmps18
  go_wp2_with fail
  go_ret
  exact ⟨rfl, below_alloc _ _⟩
theorem flat_any (a b c d e f : Int) (w : World) (h : DetIn a b c d) :
    Calls Try.prog 19 #[.agg #[.int .i64 a, .int .i64 b, .int .i64 c, .int .i64 d, .int .i64 e, .int .i64 f]] w (RetPost (.bool (a * d - b * c == 0)) w) := by
  have H := Lib.hid h
  clear h
  go_enter Try.func19, Try.ntmps19
  go_wp2_with fail
  refine (det_any a b c d e f _ H.out).mono ?_
  rintro r w1 ⟨rfl, hb⟩
  have B := Lib.hid (bthen (below_alloc _ _) hb)
  clear hb
  obtain ⟨z, hz⟩ : ∃ z, z = a * d - b * c := ⟨_, rfl⟩
  rw [← hz]
  have HZ := Lib.hid hz
  clear hz
  go_wp2_with fail
  go_ret
  exact ⟨by rw [← HZ.out]; rfl, B.out⟩
theorem lives_vals : applyX 512 0 0 512 5 0 3 4 = 11 ∧ applyY 512 0 0 512 5 0 3 4 = 8 ∧ applyE 512 0 0 512 5 0 3 4 = 0 := by
  refine ⟨?_, ?_, ?_⟩ <;> simp [applyX, applyY, applyE, may, fits, within, goes]
set_option maxRecDepth 100000 in
set_option maxHeartbeats 1600000 in
theorem livesA (w : World) : Calls Try.prog 20 #[] w (RetPost (.bool true) w) := by
  obtain ⟨l1, l2, l3⟩ := lives_vals
  go_enter Try.func20, Try.ntmps20
  go_wp2_with (go_at_call 12; refine (apply_any _ _ _ _ _ _ _ _ _).mono ?_; rintro e w1 ⟨rfl, hb1⟩)
  go_ret
  have hz := hb1.size
  refine ⟨rfl, ?_⟩
  ((repeat' (first | with_reducible exact Below.refl _ _ | with_reducible assumption | with_reducible refine Below.drew ?_ | with_reducible refine Below.alloc ?_ ?_ _ | with_reducible refine Below.setCell ?_ ?_ _)) <;> (first | omega | (simp; done) | (simp; omega)))
/-- the boxes of the law -/
def LSt (W : World) (A G H : Nat) (a b c d e f x y X Y : Int) : Prop :=
  BxAt W A [.int .i64 a, .int .i64 b, .int .i64 c, .int .i64 d, .int .i64 e, .int .i64 f] ∧ BxAt W (A + 1) [.int .i64 x, .int .i64 y] ∧ BxAt W G [.int .i64 X, .int .i64 Y] ∧ BxAt W H [.int .i64 X, .int .i64 Y]
theorem LSt.later {W W1 : World} {A G H : Nat} {a b c d e f x y X Y : Int} (h : LSt W A G H a b c d e f x y X Y) (hb : Below W.heap.size W W1) : LSt W1 A G H a b c d e f x y X Y :=
  ⟨h.1.later hb, h.2.1.later hb, h.2.2.1.later hb, h.2.2.2.later hb⟩
theorem LSt.drew {W : World} {A G H : Nat} {a b c d e f x y X Y : Int} (h : LSt W A G H a b c d e f x y X Y) : LSt W.drew A G H a b c d e f x y X Y := h
theorem LSt.cells {W : World} {A G H : Nat} {a b c d e f x y X Y : Int} (h : LSt W A G H a b c d e f x y X Y) :
    W.cell? ⟨A, 0, none⟩ = some (.int .i64 a) ∧ W.cell? ⟨A, 1, none⟩ = some (.int .i64 b) ∧ W.cell? ⟨A, 2, none⟩ = some (.int .i64 c) ∧ W.cell? ⟨A, 3, none⟩ = some (.int .i64 d) ∧ W.cell? ⟨A, 4, none⟩ = some (.int .i64 e) ∧ W.cell? ⟨A, 5, none⟩ = some (.int .i64 f) ∧
    W.cell? ⟨A + 1, 0, none⟩ = some (.int .i64 x) ∧ W.cell? ⟨A + 1, 1, none⟩ = some (.int .i64 y) ∧ W.cell? ⟨G, 0, none⟩ = some (.int .i64 X) ∧ W.cell? ⟨G, 1, none⟩ = some (.int .i64 Y) ∧ W.cell? ⟨H, 0, none⟩ = some (.int .i64 X) ∧ W.cell? ⟨H, 1, none⟩ = some (.int .i64 Y) :=
  ⟨h.1.2.2 0 _ rfl, h.1.2.2 1 _ rfl, h.1.2.2 2 _ rfl, h.1.2.2 3 _ rfl, h.1.2.2 4 _ rfl, h.1.2.2 5 _ rfl, h.2.1.2.2 0 _ rfl, h.2.1.2.2 1 _ rfl, h.2.2.1.2.2 0 _ rfl, h.2.2.1.2.2 1 _ rfl, h.2.2.2.2.2 0 _ rfl, h.2.2.2.2.2 1 _ rfl⟩
set_option maxRecDepth 100000 in
set_option maxHeartbeats 6400000 in
theorem applies_any (a b c d e f x y : Int) (w : World) :
    Calls Try.prog 3 #[.agg #[.int .i64 a, .int .i64 b, .int .i64 c, .int .i64 d, .int .i64 e, .int .i64 f], .agg #[.int .i64 x, .int .i64 y]] w (RetPost (.bool true) w) := by
  obtain ⟨w0, hw0⟩ : ∃ w0, (w.alloc (.cells #[.int .i64 a, .int .i64 b, .int .i64 c, .int .i64 d, .int .i64 e, .int .i64 f] 23)).alloc (.cells #[.int .i64 x, .int .i64 y] 25) = w0 := ⟨_, rfl⟩
  have X0 : Hid (BxAt w0 w.heap.size [.int .i64 a, .int .i64 b, .int .i64 c, .int .i64 d, .int .i64 e, .int .i64 f]) := Lib.hid (by rw [← hw0]; exact bx_a w _ _ _)
  have Y0 : Hid (BxAt w0 (w.heap.size + 1) [.int .i64 x, .int .i64 y]) := Lib.hid (by rw [← hw0]; exact bx_b w _ _ _)
  have B0 : Hid (Below w.heap.size w w0) := Lib.hid (by rw [← hw0]; exact bel2 _ _ _)
  have i0 := X0.out.2.2 0 _ rfl
  have i1 := X0.out.2.2 1 _ rfl
  have i2 := X0.out.2.2 2 _ rfl
  have i3 := X0.out.2.2 3 _ rfl
  have i4 := X0.out.2.2 4 _ rfl
  have i5 := X0.out.2.2 5 _ rfl
  have i6 := Y0.out.2.2 0 _ rfl
  have i7 := Y0.out.2.2 1 _ rfl
  go_enter Try.func3, Try.ntmps3
  go_wp2_with fail
  clear hw0
  refine (apply_any a b c d e f x y w0).mono ?_
  rintro r1 w1 ⟨rfl, hb1⟩
  obtain ⟨X, hX⟩ : ∃ z, z = applyX a b c d e f x y := ⟨_, rfl⟩
  obtain ⟨Y, hY⟩ : ∃ z, z = applyY a b c d e f x y := ⟨_, rfl⟩
  obtain ⟨E, hE⟩ : ∃ z, z = applyE a b c d e f x y := ⟨_, rfl⟩
  rw [← hX, ← hY, ← hE]
  have HXY := Lib.hid (And.intro hX (And.intro hY hE))
  have X1 := Lib.hid (X0.out.later hb1)
  have Y1 := Lib.hid (Y0.out.later hb1)
  have B1 := Lib.hid (bthen B0.out hb1)
  clear hb1 i0 i1 i2 i3 i4 i5 i6 i7 X0 Y0 B0 hX hY hE
  have j0 := (X1.out.later (below_alloc w1 (.cells #[.int .i64 X, .int .i64 Y] 25))).2.2 0 _ rfl
  have j1 := (X1.out.later (below_alloc w1 (.cells #[.int .i64 X, .int .i64 Y] 25))).2.2 1 _ rfl
  have j2 := (X1.out.later (below_alloc w1 (.cells #[.int .i64 X, .int .i64 Y] 25))).2.2 2 _ rfl
  have j3 := (X1.out.later (below_alloc w1 (.cells #[.int .i64 X, .int .i64 Y] 25))).2.2 3 _ rfl
  have j4 := (X1.out.later (below_alloc w1 (.cells #[.int .i64 X, .int .i64 Y] 25))).2.2 4 _ rfl
  have j5 := (X1.out.later (below_alloc w1 (.cells #[.int .i64 X, .int .i64 Y] 25))).2.2 5 _ rfl
  have j6 := (Y1.out.later (below_alloc w1 (.cells #[.int .i64 X, .int .i64 Y] 25))).2.2 0 _ rfl
  have j7 := (Y1.out.later (below_alloc w1 (.cells #[.int .i64 X, .int .i64 Y] 25))).2.2 1 _ rfl
  obtain ⟨w2, hw2⟩ : ∃ w2, w1.alloc (.cells #[.int .i64 X, .int .i64 Y] 25) = w2 := ⟨_, rfl⟩
  obtain ⟨G, hG⟩ : ∃ G, w1.heap.size = G := ⟨_, rfl⟩
  have G2 : Hid (BxAt w2 G [.int .i64 X, .int .i64 Y]) := Lib.hid (by rw [← hw2, ← hG]; exact BxAt.new w1 _ _)
  have X2 : Hid (BxAt w2 w.heap.size [.int .i64 a, .int .i64 b, .int .i64 c, .int .i64 d, .int .i64 e, .int .i64 f]) := Lib.hid (by rw [← hw2]; exact X1.out.later (below_alloc _ _))
  have Y2 : Hid (BxAt w2 (w.heap.size + 1) [.int .i64 x, .int .i64 y]) := Lib.hid (by rw [← hw2]; exact Y1.out.later (below_alloc _ _))
  have B2 : Hid (Below w.heap.size w w2) := Lib.hid (by rw [← hw2]; exact bthen B1.out (below_alloc _ _))
  rw [hw2] at j0 j1 j2 j3 j4 j5 j6 j7
  go_wp2_with fail
  clear hw2 X1 Y1 B1
  refine (rapply_any a b c d e f x y w2).mono ?_
  rintro r2 w3 ⟨rfl, hb3⟩
  rw [← HXY.out.1, ← HXY.out.2.1, ← HXY.out.2.2]
  clear j0 j1 j2 j3 j4 j5 j6 j7
  go_wp2_with fail
  obtain ⟨w4, hw4⟩ : ∃ w4, w4 = w3.alloc (.cells #[.int .i64 X, .int .i64 Y] 25) := ⟨_, rfl⟩
  obtain ⟨H, hH⟩ : ∃ H, H = w3.heap.size := ⟨_, rfl⟩
  rw [← hw4, ← hH]
  have F4 : Hid (LSt w4 w.heap.size G H a b c d e f x y X Y) := Lib.hid (by
    rw [hw4, hH]
    have kk := bthen hb3 (below_alloc w3 (.cells #[.int .i64 X, .int .i64 Y] 25))
    exact ⟨X2.out.later kk, Y2.out.later kk, G2.out.later kk, BxAt.new w3 _ _⟩)
  have B4 : Hid (Below w.heap.size w w4) := Lib.hid (by rw [hw4]; exact bthen (bthen B2.out hb3) (below_alloc _ _))
  clear hw4 hH hb3 X2 Y2 G2 B2 hG
  have K := F4.out
  have k : Below w4.heap.size w4 w4 := Below.refl _ _
  have C14 : ∀ W, Calls Try.prog 14 #[.agg #[.int .i64 a, .int .i64 b, .int .i64 c, .int .i64 d, .int .i64 e, .int .i64 f]] W (RetPost (.bool (may a b c d e f)) W) := fun W => may_any a b c d e f W
  have C15 := fun W => rmay_any a b c d e f W
  have C16 : ∀ W, Calls Try.prog 16 #[.agg #[.int .i64 x, .int .i64 y]] W (RetPost (.bool (fits x y)) W) := fun W => (fits_any x y W).mono fun _ _ h => ⟨h.1, by rw [h.2]; exact below_alloc _ _⟩
  have C17 : ∀ W, Calls Try.prog 17 #[.agg #[.int .i64 x, .int .i64 y]] W (RetPost (.bool (fits x y)) W) := fun W => (rfits_any x y W).mono fun _ _ h => ⟨h.1, by rw [h.2]; exact below_alloc _ _⟩
  have HD := Lib.hid (fun h => detIn (a := a) (b := b) (c := c) (d := d) (e := e) (f := f) h)
  obtain ⟨fb, hfb⟩ : ∃ fb, fb = fits x y := ⟨_, rfl⟩
  rw [← hfb] at C16 C17
  have C16 := Lib.hid C16
  have C17 := Lib.hid C17
  clear hfb
  cases hm : may a b c d e f
  · rw [hm] at C14
    simp only [hm] at C15
    have C14 := Lib.hid C14
    have C15 := Lib.hid C15
    clear hm
    refine wp_region_held_drew (S := (fun w' => w'.cell? ⟨w.heap.size, 0, none⟩ = some (.int .i64 a) ∧ w'.cell? ⟨w.heap.size, 1, none⟩ = some (.int .i64 b) ∧ w'.cell? ⟨w.heap.size, 2, none⟩ = some (.int .i64 c) ∧ w'.cell? ⟨w.heap.size, 3, none⟩ = some (.int .i64 d) ∧ w'.cell? ⟨w.heap.size, 4, none⟩ = some (.int .i64 e) ∧ w'.cell? ⟨w.heap.size, 5, none⟩ = some (.int .i64 f) ∧ w'.cell? ⟨w.heap.size + 1, 0, none⟩ = some (.int .i64 x) ∧ w'.cell? ⟨w.heap.size + 1, 1, none⟩ = some (.int .i64 y) ∧ w'.cell? ⟨G, 0, none⟩ = some (.int .i64 X) ∧ w'.cell? ⟨G, 1, none⟩ = some (.int .i64 Y) ∧ w'.cell? ⟨H, 0, none⟩ = some (.int .i64 X) ∧ w'.cell? ⟨H, 1, none⟩ = some (.int .i64 Y))) (by kernel_rfl) K.drew.cells (fun hHeld => ?_)
    refine wpAnyH_take (i := 0) (v := ?_) rfl (by kernel_rfl) (by kernel_rfl) (by kernel_rfl) (fun _ _ _ h => h) (Or.inl ⟨by rfl, ?_⟩) (by assumption) ?_
    rotate_left
    · (intro wS hSw; (try dsimp only at hSw); go_simp)
      all_goals with_reducible rfl
    (try simp only [Act.put, List.setIfInBounds_toArray, List.set_cons_zero, List.set_cons_succ, List.getElem_toArray, List.getElem_cons_zero])
    refine wpAnyH_take (i := 1) (v := ?_) rfl (by kernel_rfl) (by kernel_rfl) (by kernel_rfl) (fun _ _ _ h => h) (Or.inl ⟨by rfl, ?_⟩) (by assumption) ?_
    rotate_left
    · (intro wS hSw; (try dsimp only at hSw); go_simp)
      all_goals with_reducible rfl
    (try simp only [Act.put, List.setIfInBounds_toArray, List.set_cons_zero, List.set_cons_succ, List.getElem_toArray, List.getElem_cons_succ, List.getElem_cons_zero])
    refine wpAnyH_take (i := 2) (v := ?_) rfl (by kernel_rfl) (by kernel_rfl) (by kernel_rfl) (fun _ _ _ h => h) (Or.inl ⟨by rfl, ?_⟩) (by assumption) ?_
    rotate_left
    · (intro wS hSw; (try dsimp only at hSw); go_simp)
      all_goals with_reducible rfl
    (try simp only [Act.put, List.setIfInBounds_toArray, List.set_cons_zero, List.set_cons_succ, List.getElem_toArray, List.getElem_cons_succ, List.getElem_cons_zero])
    refine wpAnyH_take (i := 3) (v := ?_) rfl (by kernel_rfl) (by kernel_rfl) (by kernel_rfl) (fun _ _ _ h => h) (Or.inl ⟨by rfl, ?_⟩) (by assumption) ?_
    rotate_left
    · (intro wS hSw; (try dsimp only at hSw); go_simp)
      all_goals with_reducible rfl
    (try simp only [Act.put, List.setIfInBounds_toArray, List.set_cons_zero, List.set_cons_succ, List.getElem_toArray, List.getElem_cons_succ, List.getElem_cons_zero])
    refine wpAnyH_take (i := 4) (v := ?_) rfl (by kernel_rfl) (by kernel_rfl) (by kernel_rfl) (fun _ _ _ h => h) (Or.inl ⟨by rfl, ?_⟩) (by assumption) ?_
    rotate_left
    · (intro wS hSw; (try dsimp only at hSw); go_simp)
      all_goals with_reducible rfl
    (try simp only [Act.put, List.setIfInBounds_toArray, List.set_cons_zero, List.set_cons_succ, List.getElem_toArray, List.getElem_cons_succ, List.getElem_cons_zero])
    refine wpAnyH_take (i := 5) (v := ?_) rfl (by kernel_rfl) (by kernel_rfl) (by kernel_rfl) (fun _ _ _ h => h) (Or.inl ⟨by rfl, ?_⟩) (by assumption) ?_
    rotate_left
    · (intro wS hSw; (try dsimp only at hSw); go_simp)
      all_goals with_reducible rfl
    (try simp only [Act.put, List.setIfInBounds_toArray, List.set_cons_zero, List.set_cons_succ, List.getElem_toArray, List.getElem_cons_succ, List.getElem_cons_zero])
    refine wpAnyH_take (i := 6) (v := ?_) rfl (by kernel_rfl) (by kernel_rfl) (by kernel_rfl) (fun _ _ _ h => h) (Or.inl ⟨by rfl, ?_⟩) (by assumption) ?_
    rotate_left
    · (intro wS hSw; (try dsimp only at hSw); go_simp)
      all_goals with_reducible rfl
    (try simp only [Act.put, List.setIfInBounds_toArray, List.set_cons_zero, List.set_cons_succ, List.getElem_toArray, List.getElem_cons_succ, List.getElem_cons_zero])
    refine wpAnyH_take (i := 7) (v := ?_) rfl (by kernel_rfl) (by kernel_rfl) (by kernel_rfl) (fun _ _ _ h => h) (Or.inl ⟨by rfl, ?_⟩) (by assumption) ?_
    rotate_left
    · (intro wS hSw; (try dsimp only at hSw); go_simp)
      all_goals with_reducible rfl
    (try simp only [Act.put, List.setIfInBounds_toArray, List.set_cons_zero, List.set_cons_succ, List.getElem_toArray, List.getElem_cons_succ, List.getElem_cons_zero])
    refine wpAnyH_take (i := 8) (v := ?_) rfl (by kernel_rfl) (by kernel_rfl) (by kernel_rfl) (fun _ _ _ h => h) (Or.inl ⟨by rfl, ?_⟩) (by assumption) ?_
    rotate_left
    · (intro wS hSw; (try dsimp only at hSw); go_simp)
      all_goals with_reducible rfl
    (try simp only [Act.put, List.setIfInBounds_toArray, List.set_cons_zero, List.set_cons_succ, List.getElem_toArray, List.getElem_cons_succ, List.getElem_cons_zero])
    refine wpAnyH_take (i := 9) (v := ?_) rfl (by kernel_rfl) (by kernel_rfl) (by kernel_rfl) (fun _ _ _ h => h) (Or.inl ⟨by rfl, ?_⟩) (by assumption) ?_
    rotate_left
    · (intro wS hSw; (try dsimp only at hSw); go_simp)
      all_goals with_reducible rfl
    (try simp only [Act.put, List.setIfInBounds_toArray, List.set_cons_zero, List.set_cons_succ, List.getElem_toArray, List.getElem_cons_succ, List.getElem_cons_zero])
    refine wpAnyH_take (i := 11) (v := ?_) rfl (by kernel_rfl) (by kernel_rfl) (by kernel_rfl) (fun _ _ _ h => h) (Or.inl ⟨by rfl, ?_⟩) (by assumption) ?_
    rotate_left
    · (intro wS hSw; (try dsimp only at hSw); go_simp)
      all_goals with_reducible rfl
    (try simp only [Act.put, List.setIfInBounds_toArray, List.set_cons_zero, List.set_cons_succ, List.getElem_toArray, List.getElem_cons_succ, List.getElem_cons_zero])
    refine wpAnyH_ready (rs := [10]) (by kernel_rfl) (by simp) ?_
    refine AllReadyH.cons rfl (fun KK hKK => ?_) AllReadyH.nil
    go_simp
    refine (C14.out _).mono ?_
    rintro r3 v1 ⟨rfl, hb⟩
    have k : Below w4.heap.size w4 v1 := bel_drew hb
    have K := F4.out.later k
    refine hKK.out _ _ K.cells (fun hHeld => ?_)
    clear hKK KK
    (try simp only [Act.put, List.setIfInBounds_toArray, List.set_cons_zero, List.set_cons_succ, List.getElem_toArray, List.getElem_cons_succ, List.getElem_cons_zero])
    refine wpAnyH_ready (rs := [12]) (by kernel_rfl) (by simp) ?_
    refine AllReadyH.cons rfl (fun KK hKK => ?_) AllReadyH.nil
    go_simp
    refine (C15.out _).mono ?_
    rintro r3 v1 ⟨rfl, hb⟩
    have k := bthen k hb
    have K := F4.out.later k
    refine hKK.out _ _ K.cells (fun hHeld => ?_)
    clear hKK KK
    (try simp only [Act.put, List.setIfInBounds_toArray, List.set_cons_zero, List.set_cons_succ, List.getElem_toArray, List.getElem_cons_succ, List.getElem_cons_zero])
    refine wpAnyH_take (i := 13) (v := ?_) rfl (by kernel_rfl) (by kernel_rfl) (by kernel_rfl) (fun _ _ _ h => h) (Or.inl ⟨by rfl, ?_⟩) (by assumption) ?_
    rotate_left
    · (intro wS hSw; (try dsimp only at hSw); go_simp)
      all_goals with_reducible rfl
    (try simp only [Act.put, List.setIfInBounds_toArray, List.set_cons_zero, List.set_cons_succ, List.getElem_toArray, List.getElem_cons_succ, List.getElem_cons_zero])
    refine wpAnyH_take (i := 14) (v := ?_) rfl (by kernel_rfl) (by kernel_rfl) (by kernel_rfl) (fun _ _ _ h => h) (Or.inl ⟨by rfl, ?_⟩) (by assumption) ?_
    rotate_left
    · (intro wS hSw; (try dsimp only at hSw); go_simp)
      all_goals with_reducible rfl
    (try simp only [Act.put, List.setIfInBounds_toArray, List.set_cons_zero, List.set_cons_succ, List.getElem_toArray, List.getElem_cons_succ, List.getElem_cons_zero])
    refine wpAnyH_take (i := 15) (v := ?_) rfl (by kernel_rfl) (by kernel_rfl) (by kernel_rfl) (fun _ _ _ h => h) (Or.inl ⟨by rfl, ?_⟩) (by assumption) ?_
    rotate_left
    · (intro wS hSw; (try dsimp only at hSw); go_simp)
      all_goals with_reducible rfl
    (try simp only [Act.put, List.setIfInBounds_toArray, List.set_cons_zero, List.set_cons_succ, List.getElem_toArray, List.getElem_cons_succ, List.getElem_cons_zero])
    refine wpAnyH_take (i := 16) (v := ?_) rfl (by kernel_rfl) (by kernel_rfl) (by kernel_rfl) (fun _ _ _ h => h) (Or.inl ⟨by rfl, ?_⟩) (by assumption) ?_
    rotate_left
    · (intro wS hSw; (try dsimp only at hSw); go_simp)
      all_goals with_reducible rfl
    (try simp only [Act.put, List.setIfInBounds_toArray, List.set_cons_zero, List.set_cons_succ, List.getElem_toArray, List.getElem_cons_succ, List.getElem_cons_zero])
    refine wpAnyH_take (i := 18) (v := ?_) rfl (by kernel_rfl) (by kernel_rfl) (by kernel_rfl) (fun _ _ _ h => h) (Or.inl ⟨by rfl, ?_⟩) (by assumption) ?_
    rotate_left
    · (intro wS hSw; (try dsimp only at hSw); go_simp)
      all_goals with_reducible rfl
    (try simp only [Act.put, List.setIfInBounds_toArray, List.set_cons_zero, List.set_cons_succ, List.getElem_toArray, List.getElem_cons_succ, List.getElem_cons_zero])
    refine wpAnyH_ready (rs := [17]) (by kernel_rfl) (by simp) ?_
    refine AllReadyH.cons rfl (fun KK hKK => ?_) AllReadyH.nil
    go_simp
    refine (C16.out _).mono ?_
    rintro r3 v1 ⟨rfl, hb⟩
    have k := bthen k hb
    have K := F4.out.later k
    refine hKK.out _ _ K.cells (fun hHeld => ?_)
    clear hKK KK
    (try simp only [Act.put, List.setIfInBounds_toArray, List.set_cons_zero, List.set_cons_succ, List.getElem_toArray, List.getElem_cons_succ, List.getElem_cons_zero])
    refine wpAnyH_ready (rs := [19]) (by kernel_rfl) (by simp) ?_
    refine AllReadyH.cons rfl (fun KK hKK => ?_) AllReadyH.nil
    go_simp
    refine (C17.out _).mono ?_
    rintro r3 v1 ⟨rfl, hb⟩
    have k := bthen k hb
    have K := F4.out.later k
    refine hKK.out _ _ K.cells (fun hHeld => ?_)
    clear hKK KK
    (try simp only [Act.put, List.setIfInBounds_toArray, List.set_cons_zero, List.set_cons_succ, List.getElem_toArray, List.getElem_cons_succ, List.getElem_cons_zero])
    refine wpAnyH_take (i := 20) (v := ?_) rfl (by kernel_rfl) (by kernel_rfl) (by kernel_rfl) (fun _ _ _ h => h) (Or.inl ⟨by rfl, ?_⟩) (by assumption) ?_
    rotate_left
    · (intro wS hSw; (try dsimp only at hSw); go_simp)
      all_goals with_reducible rfl
    (try simp only [Act.put, List.setIfInBounds_toArray, List.set_cons_zero, List.set_cons_succ, List.getElem_toArray, List.getElem_cons_succ, List.getElem_cons_zero])
    refine wpAnyH_take (i := 21) (v := ?_) rfl (by kernel_rfl) (by kernel_rfl) (by kernel_rfl) (fun _ _ _ h => h) (Or.inl ⟨by rfl, ?_⟩) (by assumption) ?_
    rotate_left
    · (intro wS hSw; (try dsimp only at hSw); go_simp)
      all_goals with_reducible rfl
    (try simp only [Act.put, List.setIfInBounds_toArray, List.set_cons_zero, List.set_cons_succ, List.getElem_toArray, List.getElem_cons_succ, List.getElem_cons_zero])
    refine wpAnyH_take (i := 22) (v := ?_) rfl (by kernel_rfl) (by kernel_rfl) (by kernel_rfl) (fun _ _ _ h => h) (Or.inl ⟨by rfl, ?_⟩) (by assumption) ?_
    rotate_left
    · (intro wS hSw; (try dsimp only at hSw); go_simp)
      all_goals with_reducible rfl
    (try simp only [Act.put, List.setIfInBounds_toArray, List.set_cons_zero, List.set_cons_succ, List.getElem_toArray, List.getElem_cons_succ, List.getElem_cons_zero])
    refine wpAnyH_take (i := 23) (v := ?_) rfl (by kernel_rfl) (by kernel_rfl) (by kernel_rfl) (fun _ _ _ h => h) (Or.inl ⟨by rfl, ?_⟩) (by assumption) ?_
    rotate_left
    · (intro wS hSw; (try dsimp only at hSw); go_simp)
      all_goals with_reducible rfl
    (try simp only [Act.put, List.setIfInBounds_toArray, List.set_cons_zero, List.set_cons_succ, List.getElem_toArray, List.getElem_cons_succ, List.getElem_cons_zero])
    refine wpAnyH_ready (rs := [24]) (by kernel_rfl) (by simp) ?_
    refine AllReadyH.cons rfl (fun KK hKK => ?_) AllReadyH.nil
    go_simp
    refine (C15.out _).mono ?_
    rintro r3 v1 ⟨rfl, hb⟩
    have k := bthen k hb
    have K := F4.out.later k
    refine hKK.out _ _ K.cells (fun hHeld => ?_)
    clear hKK KK
    (try simp only [Act.put, List.setIfInBounds_toArray, List.set_cons_zero, List.set_cons_succ, List.getElem_toArray, List.getElem_cons_succ, List.getElem_cons_zero])
    refine wpAnyH_take (i := 25) (v := ?_) rfl (by kernel_rfl) (by kernel_rfl) (by kernel_rfl) (fun _ _ _ h => h) (Or.inl ⟨by rfl, ?_⟩) (by assumption) ?_
    rotate_left
    · (intro wS hSw; (try dsimp only at hSw); go_simp)
      all_goals with_reducible rfl
    (try simp only [Act.put, List.setIfInBounds_toArray, List.set_cons_zero, List.set_cons_succ, List.getElem_toArray, List.getElem_cons_succ, List.getElem_cons_zero])
    refine wpAnyH_take (i := 26) (v := ?_) rfl (by kernel_rfl) (by kernel_rfl) (by kernel_rfl) (fun _ _ _ h => h) (Or.inl ⟨by rfl, ?_⟩) (by assumption) ?_
    rotate_left
    · (intro wS hSw; (try dsimp only at hSw); go_simp)
      all_goals with_reducible rfl
    (try simp only [Act.put, List.setIfInBounds_toArray, List.set_cons_zero, List.set_cons_succ, List.getElem_toArray, List.getElem_cons_succ, List.getElem_cons_zero])
    refine wpAnyH_take (i := 27) (v := undef) rfl (by kernel_rfl) (by kernel_rfl) (by kernel_rfl) (fun _ _ _ h => h) (Or.inr ⟨by rfl, rfl⟩) (by assumption) ?_
    (try simp only [Act.put, List.setIfInBounds_toArray, List.set_cons_zero, List.set_cons_succ, List.getElem_toArray, List.getElem_cons_succ, List.getElem_cons_zero])
    refine wpAnyH_take (i := 29) (v := undef) rfl (by kernel_rfl) (by kernel_rfl) (by kernel_rfl) (fun _ _ _ h => h) (Or.inr ⟨by rfl, rfl⟩) (by assumption) ?_
    (try simp only [Act.put, List.setIfInBounds_toArray, List.set_cons_zero, List.set_cons_succ, List.getElem_toArray, List.getElem_cons_succ, List.getElem_cons_zero])
    refine wpAnyH_take (i := 30) (v := undef) rfl (by kernel_rfl) (by kernel_rfl) (by kernel_rfl) (fun _ _ _ h => h) (Or.inr ⟨by rfl, rfl⟩) (by assumption) ?_
    (try simp only [Act.put, List.setIfInBounds_toArray, List.set_cons_zero, List.set_cons_succ, List.getElem_toArray, List.getElem_cons_succ, List.getElem_cons_zero])
    refine wpAnyH_take (i := 31) (v := undef) rfl (by kernel_rfl) (by kernel_rfl) (by kernel_rfl) (fun _ _ _ h => h) (Or.inr ⟨by rfl, rfl⟩) (by assumption) ?_
    (try simp only [Act.put, List.setIfInBounds_toArray, List.set_cons_zero, List.set_cons_succ, List.getElem_toArray, List.getElem_cons_succ, List.getElem_cons_zero])
    refine wpAnyH_take (i := 32) (v := undef) rfl (by kernel_rfl) (by kernel_rfl) (by kernel_rfl) (fun _ _ _ h => h) (Or.inr ⟨by rfl, rfl⟩) (by assumption) ?_
    (try simp only [Act.put, List.setIfInBounds_toArray, List.set_cons_zero, List.set_cons_succ, List.getElem_toArray, List.getElem_cons_succ, List.getElem_cons_zero])
    refine wpAnyH_take (i := 33) (v := undef) rfl (by kernel_rfl) (by kernel_rfl) (by kernel_rfl) (fun _ _ _ h => h) (Or.inr ⟨by rfl, rfl⟩) (by assumption) ?_
    (try simp only [Act.put, List.setIfInBounds_toArray, List.set_cons_zero, List.set_cons_succ, List.getElem_toArray, List.getElem_cons_succ, List.getElem_cons_zero])
    refine wpAnyH_take (i := 34) (v := undef) rfl (by kernel_rfl) (by kernel_rfl) (by kernel_rfl) (fun _ _ _ h => h) (Or.inr ⟨by rfl, rfl⟩) (by assumption) ?_
    (try simp only [Act.put, List.setIfInBounds_toArray, List.set_cons_zero, List.set_cons_succ, List.getElem_toArray, List.getElem_cons_succ, List.getElem_cons_zero])
    refine wpAnyH_take (i := 35) (v := undef) rfl (by kernel_rfl) (by kernel_rfl) (by kernel_rfl) (fun _ _ _ h => h) (Or.inr ⟨by rfl, rfl⟩) (by assumption) ?_
    (try simp only [Act.put, List.setIfInBounds_toArray, List.set_cons_zero, List.set_cons_succ, List.getElem_toArray, List.getElem_cons_succ, List.getElem_cons_zero])
    refine wpAnyH_take (i := 36) (v := undef) rfl (by kernel_rfl) (by kernel_rfl) (by kernel_rfl) (fun _ _ _ h => h) (Or.inr ⟨by rfl, rfl⟩) (by assumption) ?_
    (try simp only [Act.put, List.setIfInBounds_toArray, List.set_cons_zero, List.set_cons_succ, List.getElem_toArray, List.getElem_cons_succ, List.getElem_cons_zero])
    refine wpAnyH_take (i := 37) (v := undef) rfl (by kernel_rfl) (by kernel_rfl) (by kernel_rfl) (fun _ _ _ h => h) (Or.inr ⟨by rfl, rfl⟩) (by assumption) ?_
    (try simp only [Act.put, List.setIfInBounds_toArray, List.set_cons_zero, List.set_cons_succ, List.getElem_toArray, List.getElem_cons_succ, List.getElem_cons_zero])
    refine wpAnyH_take (i := 38) (v := undef) rfl (by kernel_rfl) (by kernel_rfl) (by kernel_rfl) (fun _ _ _ h => h) (Or.inr ⟨by rfl, rfl⟩) (by assumption) ?_
    (try simp only [Act.put, List.setIfInBounds_toArray, List.set_cons_zero, List.set_cons_succ, List.getElem_toArray, List.getElem_cons_succ, List.getElem_cons_zero])
    refine wpAnyH_take (i := 39) (v := undef) rfl (by kernel_rfl) (by kernel_rfl) (by kernel_rfl) (fun _ _ _ h => h) (Or.inr ⟨by rfl, rfl⟩) (by assumption) ?_
    (try simp only [Act.put, List.setIfInBounds_toArray, List.set_cons_zero, List.set_cons_succ, List.getElem_toArray, List.getElem_cons_succ, List.getElem_cons_zero])
    refine wpAnyH_ready (rs := [28]) (by kernel_rfl) (by simp) ?_
    refine AllReadyH.cons rfl (fun KK hKK => ?_) AllReadyH.nil
    go_simp
    refine hKK.out _ _ K.cells (fun hHeld => ?_)
    clear hKK KK
    (try simp only [Act.put, List.setIfInBounds_toArray, List.set_cons_zero, List.set_cons_succ, List.getElem_toArray, List.getElem_cons_succ, List.getElem_cons_zero])
    refine wpAnyH_take (i := 40) (v := undef) rfl (by kernel_rfl) (by kernel_rfl) (by kernel_rfl) (fun _ _ _ h => h) (Or.inr ⟨by rfl, rfl⟩) (by assumption) ?_
    (try simp only [Act.put, List.setIfInBounds_toArray, List.set_cons_zero, List.set_cons_succ, List.getElem_toArray, List.getElem_cons_succ, List.getElem_cons_zero])
    refine wpAnyH_take (i := 41) (v := undef) rfl (by kernel_rfl) (by kernel_rfl) (by kernel_rfl) (fun _ _ _ h => h) (Or.inr ⟨by rfl, rfl⟩) (by assumption) ?_
    (try simp only [Act.put, List.setIfInBounds_toArray, List.set_cons_zero, List.set_cons_succ, List.getElem_toArray, List.getElem_cons_succ, List.getElem_cons_zero])
    refine wpAnyH_take (i := 42) (v := undef) rfl (by kernel_rfl) (by kernel_rfl) (by kernel_rfl) (fun _ _ _ h => h) (Or.inr ⟨by rfl, rfl⟩) (by assumption) ?_
    (try simp only [Act.put, List.setIfInBounds_toArray, List.set_cons_zero, List.set_cons_succ, List.getElem_toArray, List.getElem_cons_succ, List.getElem_cons_zero])
    refine wpAnyH_take (i := 44) (v := undef) rfl (by kernel_rfl) (by kernel_rfl) (by kernel_rfl) (fun _ _ _ h => h) (Or.inr ⟨by rfl, rfl⟩) (by assumption) ?_
    (try simp only [Act.put, List.setIfInBounds_toArray, List.set_cons_zero, List.set_cons_succ, List.getElem_toArray, List.getElem_cons_succ, List.getElem_cons_zero])
    refine wpAnyH_take (i := 45) (v := undef) rfl (by kernel_rfl) (by kernel_rfl) (by kernel_rfl) (fun _ _ _ h => h) (Or.inr ⟨by rfl, rfl⟩) (by assumption) ?_
    (try simp only [Act.put, List.setIfInBounds_toArray, List.set_cons_zero, List.set_cons_succ, List.getElem_toArray, List.getElem_cons_succ, List.getElem_cons_zero])
    refine wpAnyH_take (i := 46) (v := undef) rfl (by kernel_rfl) (by kernel_rfl) (by kernel_rfl) (fun _ _ _ h => h) (Or.inr ⟨by rfl, rfl⟩) (by assumption) ?_
    (try simp only [Act.put, List.setIfInBounds_toArray, List.set_cons_zero, List.set_cons_succ, List.getElem_toArray, List.getElem_cons_succ, List.getElem_cons_zero])
    refine wpAnyH_take (i := 47) (v := undef) rfl (by kernel_rfl) (by kernel_rfl) (by kernel_rfl) (fun _ _ _ h => h) (Or.inr ⟨by rfl, rfl⟩) (by assumption) ?_
    (try simp only [Act.put, List.setIfInBounds_toArray, List.set_cons_zero, List.set_cons_succ, List.getElem_toArray, List.getElem_cons_succ, List.getElem_cons_zero])
    refine wpAnyH_take (i := 48) (v := undef) rfl (by kernel_rfl) (by kernel_rfl) (by kernel_rfl) (fun _ _ _ h => h) (Or.inr ⟨by rfl, rfl⟩) (by assumption) ?_
    (try simp only [Act.put, List.setIfInBounds_toArray, List.set_cons_zero, List.set_cons_succ, List.getElem_toArray, List.getElem_cons_succ, List.getElem_cons_zero])
    refine wpAnyH_take (i := 49) (v := undef) rfl (by kernel_rfl) (by kernel_rfl) (by kernel_rfl) (fun _ _ _ h => h) (Or.inr ⟨by rfl, rfl⟩) (by assumption) ?_
    (try simp only [Act.put, List.setIfInBounds_toArray, List.set_cons_zero, List.set_cons_succ, List.getElem_toArray, List.getElem_cons_succ, List.getElem_cons_zero])
    refine wpAnyH_take (i := 50) (v := undef) rfl (by kernel_rfl) (by kernel_rfl) (by kernel_rfl) (fun _ _ _ h => h) (Or.inr ⟨by rfl, rfl⟩) (by assumption) ?_
    (try simp only [Act.put, List.setIfInBounds_toArray, List.set_cons_zero, List.set_cons_succ, List.getElem_toArray, List.getElem_cons_succ, List.getElem_cons_zero])
    refine wpAnyH_take (i := 51) (v := undef) rfl (by kernel_rfl) (by kernel_rfl) (by kernel_rfl) (fun _ _ _ h => h) (Or.inr ⟨by rfl, rfl⟩) (by assumption) ?_
    (try simp only [Act.put, List.setIfInBounds_toArray, List.set_cons_zero, List.set_cons_succ, List.getElem_toArray, List.getElem_cons_succ, List.getElem_cons_zero])
    refine wpAnyH_take (i := 52) (v := undef) rfl (by kernel_rfl) (by kernel_rfl) (by kernel_rfl) (fun _ _ _ h => h) (Or.inr ⟨by rfl, rfl⟩) (by assumption) ?_
    (try simp only [Act.put, List.setIfInBounds_toArray, List.set_cons_zero, List.set_cons_succ, List.getElem_toArray, List.getElem_cons_succ, List.getElem_cons_zero])
    refine wpAnyH_take (i := 53) (v := undef) rfl (by kernel_rfl) (by kernel_rfl) (by kernel_rfl) (fun _ _ _ h => h) (Or.inr ⟨by rfl, rfl⟩) (by assumption) ?_
    (try simp only [Act.put, List.setIfInBounds_toArray, List.set_cons_zero, List.set_cons_succ, List.getElem_toArray, List.getElem_cons_succ, List.getElem_cons_zero])
    refine wpAnyH_take (i := 54) (v := undef) rfl (by kernel_rfl) (by kernel_rfl) (by kernel_rfl) (fun _ _ _ h => h) (Or.inr ⟨by rfl, rfl⟩) (by assumption) ?_
    (try simp only [Act.put, List.setIfInBounds_toArray, List.set_cons_zero, List.set_cons_succ, List.getElem_toArray, List.getElem_cons_succ, List.getElem_cons_zero])
    refine wpAnyH_ready (rs := [43]) (by kernel_rfl) (by simp) ?_
    refine AllReadyH.cons rfl (fun KK hKK => ?_) AllReadyH.nil
    go_simp
    refine hKK.out _ _ K.cells (fun hHeld => ?_)
    clear hKK KK
    (try simp only [Act.put, List.setIfInBounds_toArray, List.set_cons_zero, List.set_cons_succ, List.getElem_toArray, List.getElem_cons_succ, List.getElem_cons_zero])
    refine wpAnyH_take (i := 55) (v := undef) rfl (by kernel_rfl) (by kernel_rfl) (by kernel_rfl) (fun _ _ _ h => h) (Or.inr ⟨by rfl, rfl⟩) (by assumption) ?_
    (try simp only [Act.put, List.setIfInBounds_toArray, List.set_cons_zero, List.set_cons_succ, List.getElem_toArray, List.getElem_cons_succ, List.getElem_cons_zero])
    refine wpAnyH_take (i := 56) (v := undef) rfl (by kernel_rfl) (by kernel_rfl) (by kernel_rfl) (fun _ _ _ h => h) (Or.inr ⟨by rfl, rfl⟩) (by assumption) ?_
    (try simp only [Act.put, List.setIfInBounds_toArray, List.set_cons_zero, List.set_cons_succ, List.getElem_toArray, List.getElem_cons_succ, List.getElem_cons_zero])
    refine wpAnyH_take (i := 57) (v := ?_) rfl (by kernel_rfl) (by kernel_rfl) (by kernel_rfl) (fun _ _ _ h => h) (Or.inl ⟨by rfl, ?_⟩) (by assumption) ?_
    rotate_left
    · (intro wS hSw; (try dsimp only at hSw); go_simp)
      all_goals with_reducible rfl
    (try simp only [Act.put, List.setIfInBounds_toArray, List.set_cons_zero, List.set_cons_succ, List.getElem_toArray, List.getElem_cons_succ, List.getElem_cons_zero])
    refine wpAnyH_take (i := 58) (v := ?_) rfl (by kernel_rfl) (by kernel_rfl) (by kernel_rfl) (fun _ _ _ h => h) (Or.inl ⟨by rfl, ?_⟩) (by assumption) ?_
    rotate_left
    · (intro wS hSw; (try dsimp only at hSw); go_simp)
      all_goals with_reducible rfl
    (try simp only [Act.put, List.setIfInBounds_toArray, List.set_cons_zero, List.set_cons_succ, List.getElem_toArray, List.getElem_cons_succ, List.getElem_cons_zero])
    refine wpAnyH_take (i := 59) (v := ?_) rfl (by kernel_rfl) (by kernel_rfl) (by kernel_rfl) (fun _ _ _ h => h) (Or.inl ⟨by rfl, ?_⟩) (by assumption) ?_
    rotate_left
    · (intro wS hSw; (try dsimp only at hSw); go_simp)
      all_goals with_reducible rfl
    (try simp only [Act.put, List.setIfInBounds_toArray, List.set_cons_zero, List.set_cons_succ, List.getElem_toArray, List.getElem_cons_succ, List.getElem_cons_zero])
    refine wpAnyH_ready (rs := [60]) (by kernel_rfl) (by simp) ?_
    refine AllReadyH.cons rfl (fun KK hKK => ?_) AllReadyH.nil
    go_simp
    refine (livesA _).mono ?_
    rintro r3 v1 ⟨rfl, hb⟩
    have k := bthen k hb
    have K := F4.out.later k
    refine hKK.out _ _ K.cells (fun hHeld => ?_)
    clear hKK KK
    (try simp only [Act.put, List.setIfInBounds_toArray, List.set_cons_zero, List.set_cons_succ, List.getElem_toArray, List.getElem_cons_succ, List.getElem_cons_zero])
    refine wpAnyH_take (i := 61) (v := ?_) rfl (by kernel_rfl) (by kernel_rfl) (by kernel_rfl) (fun _ _ _ h => h) (Or.inl ⟨by rfl, ?_⟩) (by assumption) ?_
    rotate_left
    · (intro wS hSw; (try dsimp only at hSw); go_simp)
      all_goals with_reducible rfl
    (try simp only [Act.put, List.setIfInBounds_toArray, List.set_cons_zero, List.set_cons_succ, List.getElem_toArray, List.getElem_cons_succ, List.getElem_cons_zero])
    refine wpAnyH_take (i := 62) (v := ?_) rfl (by kernel_rfl) (by kernel_rfl) (by kernel_rfl) (fun _ _ _ h => h) (Or.inl ⟨by rfl, ?_⟩) (by assumption) ?_
    rotate_left
    · (intro wS hSw; (try dsimp only at hSw); go_simp)
      all_goals with_reducible rfl
    (try simp only [Act.put, List.setIfInBounds_toArray, List.set_cons_zero, List.set_cons_succ, List.getElem_toArray, List.getElem_cons_succ, List.getElem_cons_zero])
    refine wpAnyH_done (by kernel_rfl) ?_ _
    go_wp2_with fail
    go_ret
    exact ⟨rfl, bthen B4.out k⟩
  · rw [hm] at C14
    simp only [hm] at C15
    have C14 := Lib.hid C14
    have C15 := Lib.hid C15
    have hd := HD.out hm
    have D := Lib.hid hd
    obtain ⟨q1, q2, q3⟩ := hd
    have C18 := Lib.hid (fun W => det_any a b c d e f W D.out)
    have C19 := fun W => flat_any a b c d e f W D.out
    have hfl : (a * d - b * c == 0) = (a * d == b * c) := by
      by_cases h : a * d = b * c
      · rw [h]; simp
      · rw [beq_eq_false_iff_ne.2 (by omega), beq_eq_false_iff_ne.2 h]
    simp only [hfl] at C19
    have C19 := Lib.hid C19
    obtain ⟨u, hu⟩ : ∃ u, u = a * d := ⟨_, rfl⟩
    obtain ⟨v, hv⟩ : ∃ v, v = b * c := ⟨_, rfl⟩
    rw [← hu, ← hv] at C18 C19
    have q1' : IntKind.i64.wrap (a * d) = u := by rw [hu]; exact q1
    have q2' : IntKind.i64.wrap (b * c) = v := by rw [hv]; exact q2
    have q3' : IntKind.i64.wrap (u - v) = u - v := by rw [hu, hv]; exact q3
    clear hm q1 q2 q3 hu hv hfl
    go_region_held3 (fun w' => w'.cell? ⟨w.heap.size, 0, none⟩ = some (.int .i64 a) ∧ w'.cell? ⟨w.heap.size, 1, none⟩ = some (.int .i64 b) ∧ w'.cell? ⟨w.heap.size, 2, none⟩ = some (.int .i64 c) ∧ w'.cell? ⟨w.heap.size, 3, none⟩ = some (.int .i64 d) ∧ w'.cell? ⟨w.heap.size, 4, none⟩ = some (.int .i64 e) ∧ w'.cell? ⟨w.heap.size, 5, none⟩ = some (.int .i64 f) ∧
        w'.cell? ⟨w.heap.size + 1, 0, none⟩ = some (.int .i64 x) ∧ w'.cell? ⟨w.heap.size + 1, 1, none⟩ = some (.int .i64 y) ∧ w'.cell? ⟨G, 0, none⟩ = some (.int .i64 X) ∧ w'.cell? ⟨G, 1, none⟩ = some (.int .i64 Y) ∧ w'.cell? ⟨H, 0, none⟩ = some (.int .i64 X) ∧ w'.cell? ⟨H, 1, none⟩ = some (.int .i64 Y))
      (first | with_reducible exact K.cells | with_reducible exact K.drew.cells)
      (first
        | (go_at_call 14; (with_reducible refine (C14.out _).mono ?_); rintro r3 v1 ⟨rfl, hb⟩; have k : Below w4.heap.size w4 v1 := bel_drew hb; have K := F4.out.later k)
        | (go_at_call 15; (with_reducible refine (C15.out _).mono ?_); rintro r3 v1 ⟨rfl, hb⟩; have k := bthen k hb; have K := F4.out.later k)
        | (go_at_call 16; (with_reducible refine (C16.out _).mono ?_); rintro r3 v1 ⟨rfl, hb⟩; have k := bthen k hb; have K := F4.out.later k)
        | (go_at_call 17; (with_reducible refine (C17.out _).mono ?_); rintro r3 v1 ⟨rfl, hb⟩; have k := bthen k hb; have K := F4.out.later k)
        | (go_at_call 18; (with_reducible refine (C18.out _).mono ?_); rintro r3 v1 ⟨rfl, hb⟩; have k := bthen k hb; have K := F4.out.later k)
        | (go_at_call 19; (with_reducible refine (C19.out _).mono ?_); rintro r3 v1 ⟨rfl, hb⟩; have k := bthen k hb; have K := F4.out.later k)
        | (go_at_call 20; (with_reducible refine (livesA _).mono ?_); rintro r3 v1 ⟨rfl, hb⟩; have k := bthen k hb; have K := F4.out.later k))
    all_goals go_wp2_with fail
    go_ret
    exact ⟨rfl, bthen B4.out k⟩
end Go.Proofs.Ytbmbibjidpgbnaa
