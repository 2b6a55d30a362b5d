/- Contracts of the reference's whole numbers: Sub, Mul, Cmp. -/
import Derived.Test.YtbmbibjidpgbnaaWho3
import Derived.Test.YtbmbibjidpgbnaaNum11
namespace Go.Proofs.Ytbmbibjidpgbnaa
open Go.RowKit

theorem sgn_mul {x y : Int} {b c : Bool} (h : b = decide (x < 0)) (h2 : c = decide (y < 0)) : sgn (b != c) (x.natAbs * y.natAbs) = x * y := by
  subst h
  subst h2
  rw [← Int.natAbs_mul]
  unfold sgn
  by_cases hx : x < 0 <;> by_cases hy : y < 0
  · have := Int.mul_pos_of_neg_of_neg hx hy
    simp [hx, hy]; omega
  · have : x * y ≤ 0 := Int.mul_nonpos_of_nonpos_of_nonneg (by omega) (by omega)
    simp [hx, hy]; omega
  · have : x * y ≤ 0 := Int.mul_nonpos_of_nonneg_of_nonpos (by omega) (by omega)
    simp [hx, hy]; omega
  · have : 0 ≤ x * y := Int.mul_nonneg (by omega) (by omega)
    simp [hx, hy]; omega
theorem bx3_a (w : World) (cs : List Value) (t : TypeId) (o o2 : Obj) : BxAt (((w.alloc (.cells cs.toArray t)).alloc o).alloc o2) w.heap.size cs := (bx_a w cs t o).later (below_alloc _ _)
theorem bx3_b (w : World) (cs : List Value) (t : TypeId) (o o2 : Obj) : BxAt (((w.alloc o).alloc (.cells cs.toArray t)).alloc o2) (w.heap.size + 1) cs := (bx_b w cs t o).later (below_alloc _ _)
theorem bx3_c (w : World) (cs : List Value) (t : TypeId) (o o2 : Obj) : BxAt (((w.alloc o).alloc o2).alloc (.cells cs.toArray t)) (w.heap.size + 1 + 1) cs := by
  have := bx_b (w.alloc o) cs t o2
  simpa using this
set_option maxRecDepth 100000 in
set_option maxHeartbeats 3200000 in
theorem WMul_any (b c : Bool) (s t : Value) (x y : Int) (w : World) (hx : Small x.natAbs) (hy : Small y.natAbs) (hxy : Small (x * y).natAbs) (h : Whp w b s x) (h2 : Whp w c t y) :
    Calls Try.prog 78 #[.agg #[.bool b, s], .agg #[.bool c, t]] w (WhPost (x * y) w) := by
  obtain ⟨hb, h⟩ := h
  obtain ⟨hc, h2⟩ := h2
  have SM : Hid (sgn (!(b == c)) (x.natAbs * y.natAbs) = x * y) := Lib.hid (sgn_mul hb hc)
  have A := Lib.hid h
  have C := Lib.hid h2
  have HX := Lib.hid hx
  have HY := Lib.hid hy
  have HXY : Hid (Small (x.natAbs * y.natAbs)) := Lib.hid (by rw [← Int.natAbs_mul]; exact hxy)
  clear h h2 hb hc hx hy hxy
  go_enter Try.func78, Try.ntmps78
  obtain ⟨w0, hw0⟩ : ∃ w0, w0 = ((w.alloc (.cells #[.bool b, s] 104)).alloc (.cells #[.bool c, t] 104)).alloc (.cells #[.bool false, .slice none 0 0] 104) := ⟨_, rfl⟩
  have X0 := Lib.hid (show BxAt w0 w.heap.size [.bool b, s] by rw [hw0]; exact bx3_a w _ _ _ _)
  have Y0 := Lib.hid (show BxAt w0 (w.heap.size + 1) [.bool c, t] by rw [hw0]; exact bx3_b w _ _ _ _)
  have Z0 := Lib.hid (show BxAt w0 (w.heap.size + 1 + 1) [.bool false, .slice none 0 0] by rw [hw0]; exact bx3_c w _ _ _ _)
  have B0 : Hid (Below w.heap.size w w0) := Lib.hid (by rw [hw0]; exact bel3 _ _ _ _)
  have e0 : ((w.alloc (.cells #[.bool b, s] 104)).alloc (.cells #[.bool c, t] 104)).alloc (.cells #[.bool false, .slice none 0 0] 104) = w0 := hw0.symm
  clear hw0
  have A := Lib.hid (A.out.later B0.out)
  have C := Lib.hid (C.out.later B0.out)
  go_wp2_with fail
  clear e0
  have c0 := X0.out.2.2 0 _ rfl
  have c1 := X0.out.2.2 1 _ rfl
  have d0 := Y0.out.2.2 0 _ rfl
  have d1 := Y0.out.2.2 1 _ rfl
  go_region_held3 (fun w' => w'.cell? ⟨w.heap.size, 0, none⟩ = some (.bool b) ∧ w'.cell? ⟨w.heap.size, 1, none⟩ = some s ∧ w'.cell? ⟨w.heap.size + 1, 0, none⟩ = some (.bool c) ∧ w'.cell? ⟨w.heap.size + 1, 1, none⟩ = some t) (first | exact ⟨c0, c1, d0, d1⟩ | exact ⟨by assumption, by assumption, by assumption, by assumption⟩ | exact ⟨cell2_far (by assumption) (by omega), cell2_far (by assumption) (by omega), cell2_far (by assumption) (by omega), cell2_far (by assumption) (by omega)⟩ | go_keep)
    (first
      | (go_at_call 88; refine (Mul_any _ _ x.natAbs y.natAbs _ HX.out HY.out (by exact A.out) (by exact C.out)).mono ?_; rintro e w1 ⟨⟨v1, rfl, h1⟩, hb1⟩; have k1 : Below w0.heap.size w0 w1 := (by first | exact hb1 | exact bel_drew hb1); have s0 := cell_later k1 c0; have s1 := cell_later k1 c1; have s2 := cell_later k1 d0; have s3 := cell_later k1 d1)
      | (go_at_call 91; refine (Make_any _ _ (x.natAbs * y.natAbs) _ HXY.out (by assumption)).mono ?_; rintro e w2 ⟨⟨b2, s2', rfl, h2⟩, hb2⟩; obtain ⟨ps, ns, cs, rfl⟩ := h2.form; have t0 := cell_later hb2 s0; have t1 := cell_later hb2 s1; have t2 := cell_later hb2 s2; have t3 := cell_later hb2 s3; have Z2 := (Z0.out.later k1).later hb2; have q0 := Z2.2.2 0 _ rfl; have q1 := Z2.2.2 1 _ rfl; have qf := Z2.2.1))
  go_wp2_with fail
  have B2 := Lib.hid (bthen (bthen B0.out k1) hb2)
  rw [SM.out] at h2
  refine bodyPost_ret (v := .agg #[.bool b2, .slice ps ns cs]) ?_ rfl ⟨⟨_, _, rfl, h2.store2 _ _ Z2⟩, below_store2 B2.out (by omega) _ _⟩
  clear c0 c1 d0 d1 s0 s1 s2 s3 t0 t1 t2 t3 k1 hb1 hb2
  simp [results, Try.results78, go_sem, q0, q1]
set_option maxRecDepth 100000 in
set_option maxHeartbeats 3200000 in
theorem WSub_any (b c : Bool) (s t : Value) (x y : Int) (w : World) (hx : Small x.natAbs) (hy : Small y.natAbs) (hxy : Small (x - y).natAbs) (h : Whp w b s x) (h2 : Whp w c t y) :
    Calls Try.prog 105 #[.agg #[.bool b, s], .agg #[.bool c, t]] w (WhPost (x - y) w) := by
  have A := Lib.hid h
  have C := Lib.hid h2
  have HX := Lib.hid hx
  have HY := Lib.hid hy
  have HNY : Hid (Small (-y).natAbs) := Lib.hid (by rw [Int.natAbs_neg]; exact hy)
  have HXY : Hid (Small (x + -y).natAbs) := Lib.hid hxy
  clear h h2 hx hy hxy
  go_enter Try.func105, Try.ntmps105
  obtain ⟨w0, hw0⟩ : ∃ w0, w0 = ((w.alloc (.cells #[.bool b, s] 104)).alloc (.cells #[.bool c, t] 104)).alloc (.cells #[.bool false, .slice none 0 0] 104) := ⟨_, rfl⟩
  have X0 := Lib.hid (show BxAt w0 w.heap.size [.bool b, s] by rw [hw0]; exact bx3_a w _ _ _ _)
  have Y0 := Lib.hid (show BxAt w0 (w.heap.size + 1) [.bool c, t] by rw [hw0]; exact bx3_b w _ _ _ _)
  have Z0 := Lib.hid (show BxAt w0 (w.heap.size + 1 + 1) [.bool false, .slice none 0 0] by rw [hw0]; exact bx3_c w _ _ _ _)
  have B0 : Hid (Below w.heap.size w w0) := Lib.hid (by rw [hw0]; exact bel3 _ _ _ _)
  have e0 : ((w.alloc (.cells #[.bool b, s] 104)).alloc (.cells #[.bool c, t] 104)).alloc (.cells #[.bool false, .slice none 0 0] 104) = w0 := hw0.symm
  clear hw0
  have A := Lib.hid (A.out.later B0.out)
  have C := Lib.hid (C.out.later B0.out)
  go_wp2_with fail
  clear e0
  have c0 := X0.out.2.2 0 _ rfl
  have c1 := X0.out.2.2 1 _ rfl
  have d0 := Y0.out.2.2 0 _ rfl
  have d1 := Y0.out.2.2 1 _ rfl
  go_region_held3 (fun w' => w'.cell? ⟨w.heap.size, 0, none⟩ = some (.bool b) ∧ w'.cell? ⟨w.heap.size, 1, none⟩ = some s ∧ w'.cell? ⟨w.heap.size + 1, 0, none⟩ = some (.bool c) ∧ w'.cell? ⟨w.heap.size + 1, 1, none⟩ = some t) (first | exact ⟨c0, c1, d0, d1⟩ | exact ⟨by assumption, by assumption, by assumption, by assumption⟩ | exact ⟨cell2_far (by assumption) (by omega), cell2_far (by assumption) (by omega), cell2_far (by assumption) (by omega), cell2_far (by assumption) (by omega)⟩ | go_keep)
    (first
      | (go_at_call 111; refine (Neg_any _ _ y _ HY.out (by exact C.out)).mono ?_; rintro e w1 ⟨⟨b1, s1', rfl, h1⟩, hb1⟩; have k1 : Below w0.heap.size w0 w1 := (by first | exact hb1 | exact bel_drew hb1); have s0 := cell_later k1 c0; have s1 := cell_later k1 c1; have s2 := cell_later k1 d0; have s3 := cell_later k1 d1)
      | (go_at_call 87; refine (WAdd_any _ _ _ _ x (-y) _ HX.out HNY.out HXY.out (A.out.later k1) (by assumption)).mono ?_; rintro e w2 ⟨⟨b2, s2', rfl, h2⟩, hb2⟩; obtain ⟨ps, ns, cs, rfl⟩ := h2.form; have t0 := cell_later hb2 s0; have t1 := cell_later hb2 s1; have t2 := cell_later hb2 s2; have t3 := cell_later hb2 s3; have Z2 := (Z0.out.later k1).later hb2; have q0 := Z2.2.2 0 _ rfl; have q1 := Z2.2.2 1 _ rfl; have qf := Z2.2.1))
  go_wp2_with fail
  have B2 := Lib.hid (bthen (bthen B0.out k1) hb2)
  refine bodyPost_ret (v := .agg #[.bool b2, .slice ps ns cs]) ?_ rfl ⟨⟨_, _, rfl, h2.store2 _ _ Z2⟩, below_store2 B2.out (by omega) _ _⟩
  clear c0 c1 d0 d1 s0 s1 s2 s3 t0 t1 t2 t3 k1 hb1 hb2
  simp [results, Try.results105, go_sem, q0, q1]
set_option maxRecDepth 100000 in
set_option maxHeartbeats 3200000 in
theorem WCmp_any (b c : Bool) (s t : Value) (x y : Int) (w : World) (hx : Small x.natAbs) (hy : Small y.natAbs) (hxy : Small (x - y).natAbs) (h : Whp w b s x) (h2 : Whp w c t y) :
    Calls Try.prog 95 #[.agg #[.bool b, s], .agg #[.bool c, t]] w (SignPost (x - y) w) := by
  have A := Lib.hid h
  have C := Lib.hid h2
  have HX := Lib.hid hx
  have HY := Lib.hid hy
  have HXY := Lib.hid hxy
  clear h h2 hx hy hxy
  go_enter Try.func95, Try.ntmps95
  obtain ⟨w0, hw0⟩ : ∃ w0, w0 = (w.alloc (.cells #[.bool b, s] 104)).alloc (.cells #[.bool c, t] 104) := ⟨_, rfl⟩
  have X0 := Lib.hid (show BxAt w0 w.heap.size [.bool b, s] by rw [hw0]; exact bx_a w _ _ _)
  have Y0 := Lib.hid (show BxAt w0 (w.heap.size + 1) [.bool c, t] by rw [hw0]; exact bx_b w _ _ _)
  have B0 : Hid (Below w.heap.size w w0) := Lib.hid (by rw [hw0]; exact bel2 _ _ _)
  have e0 : (w.alloc (.cells #[.bool b, s] 104)).alloc (.cells #[.bool c, t] 104) = w0 := hw0.symm
  clear hw0
  have A := Lib.hid (A.out.later B0.out)
  have C := Lib.hid (C.out.later B0.out)
  have c0 := X0.out.2.2 0 _ rfl
  have c1 := X0.out.2.2 1 _ rfl
  have d0 := Y0.out.2.2 0 _ rfl
  have d1 := Y0.out.2.2 1 _ rfl
  go_wp2_with fail
  refine (WSub_any b c s t x y w0 HX.out HY.out HXY.out A.out C.out).mono ?_
  rintro e w1 ⟨⟨b1, s1, rfl, h1⟩, hb1⟩
  have R := Lib.hid h1
  have B1 := Lib.hid (bthen B0.out hb1)
  clear h1 hb1 c0 c1 d0 d1 e0
  go_wp2_with fail
  refine (Sign_any b1 s1 (x - y) w1 HXY.out R.out).mono ?_
  rintro e w2 ⟨rfl, hb2⟩
  have B2 := Lib.hid (bthen B1.out hb2)
  clear hb2
  go_wp2_with fail
  go_ret
  exact ⟨rfl, B2.out⟩
end Go.Proofs.Ytbmbibjidpgbnaa
