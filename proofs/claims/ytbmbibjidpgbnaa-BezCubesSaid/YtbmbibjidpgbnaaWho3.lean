/- Contracts of the reference's whole numbers: Add. -/
import Derived.Test.YtbmbibjidpgbnaaWho2
import Derived.Test.YtbmbibjidpgbnaaNum7
import Derived.Deep.RegionHeld3
namespace Go.Proofs.Ytbmbibjidpgbnaa
open Go.RowKit

theorem sgn_add {x y : Int} {b c : Bool} (h : b = decide (x < 0)) (h2 : c = decide (y < 0)) (e : b = c) : sgn b (x.natAbs + y.natAbs) = x + y := by
  subst h
  have h3 := decide_eq_decide.1 (e.trans h2)
  unfold sgn
  by_cases hz : x < 0
  · simp [hz]; omega
  · simp [hz]; omega
theorem sgn_sub {x y : Int} {b c : Bool} (h : b = decide (x < 0)) (h2 : c = decide (y < 0)) (e : b ≠ c) (hle : y.natAbs ≤ x.natAbs) : sgn b (x.natAbs - y.natAbs) = x + y := by
  subst h
  have h3 : ¬ (x < 0 ↔ y < 0) := fun hh => e (by rw [h2]; exact decide_eq_decide.2 hh)
  unfold sgn
  by_cases hz : x < 0
  · simp [hz]; omega
  · simp [hz]; omega
set_option maxRecDepth 100000 in
set_option maxHeartbeats 3200000 in
theorem WAdd_any (b c : Bool) (s t : Value) (x y : Int) (w : World) (hx : Small x.natAbs) (hy : Small y.natAbs) (hxy : Small (x + y).natAbs) (h : Whp w b s x) (h2 : Whp w c t y) :
    Calls Try.prog 87 #[.agg #[.bool b, s], .agg #[.bool c, t]] w (WhPost (x + y) w) := by
  obtain ⟨hb, h⟩ := h
  obtain ⟨hc, h2⟩ := h2
  have SA := Lib.hid (fun e => sgn_add hb hc e)
  have SS := Lib.hid (fun e h => sgn_sub hb hc e h)
  have SS2 := Lib.hid (fun e h => sgn_sub hc hb e h)
  have A := Lib.hid h
  have C := Lib.hid h2
  have HX := Lib.hid hx
  have HY := Lib.hid hy
  have HXY := Lib.hid hxy
  clear h h2 hb hc hx hy hxy
  go_enter Try.func87, Try.ntmps87
  obtain ⟨w0, hw0⟩ : ∃ w0, w0 = ((w.alloc (.cells #[.bool b, s] 104)).alloc (.cells #[.bool c, t] 104)).alloc (.cells #[.bool false, .slice none 0 0] 104) := ⟨_, rfl⟩
  have X0 := Lib.hid (show BxAt w0 w.heap.size [.bool b, s] by rw [hw0]; exact (bx_a w _ _ _).later (below_alloc _ _))
  have Y0 := Lib.hid (show BxAt w0 (w.heap.size + 1) [.bool c, t] by rw [hw0]; exact (bx_b w _ _ _).later (below_alloc _ _))
  have Z0 := Lib.hid (show BxAt w0 (w.heap.size + 1 + 1) [.bool false, .slice none 0 0] by rw [hw0]; have := bx_b (w.alloc (.cells #[.bool b, s] 104)) [.bool false, .slice none 0 0] 104 (.cells #[.bool c, t] 104); simpa using this)
  have B0 : Hid (Below w.heap.size w w0) := Lib.hid (by rw [hw0]; exact bel3 _ _ _ _)
  have c0 := X0.out.2.2 0 _ rfl
  have c1 := X0.out.2.2 1 _ rfl
  have d0 := Y0.out.2.2 0 _ rfl
  have d1 := Y0.out.2.2 1 _ rfl
  have r0 := Z0.out.2.2 0 _ rfl
  have r1 := Z0.out.2.2 1 _ rfl
  have rf := Z0.out.2.1
  have e0 : ((w.alloc (.cells #[.bool b, s] 104)).alloc (.cells #[.bool c, t] 104)).alloc (.cells #[.bool false, .slice none 0 0] 104) = w0 := hw0.symm
  clear hw0
  have A := Lib.hid (A.out.later B0.out)
  have C := Lib.hid (C.out.later B0.out)
  by_cases hbc : b = c
  · have SAx := Lib.hid (SA.out hbc)
    clear SA SS SS2
    subst hbc
    have hs : Hid (Small (x.natAbs + y.natAbs)) := Lib.hid (by have h1 := HXY.out; rw [← SAx.out, sgn_abs] at h1; exact h1)
    go_wp2_with fail
    clear e0
    go_region_held3 (fun w' => w'.cell? ⟨w.heap.size, 0, none⟩ = some (.bool b) ∧ w'.cell? ⟨w.heap.size, 1, none⟩ = some s ∧ w'.cell? ⟨w.heap.size + 1, 1, none⟩ = some t) (first | exact ⟨c0, c1, d1⟩ | exact ⟨by assumption, by assumption, by assumption⟩ | exact ⟨cell2_far (by assumption) (by omega), cell2_far (by assumption) (by omega), cell2_far (by assumption) (by omega)⟩ | go_keep)
      (first
        | (go_at_call 92; refine (Add_any _ _ x.natAbs y.natAbs _ HX.out HY.out (by exact A.out) (by exact C.out)).mono ?_; rintro e w1 ⟨⟨v1, rfl, h1⟩, hb1⟩; have k1 : Below w0.heap.size w0 w1 := (by first | exact hb1 | exact bel_drew hb1); have s0 := cell_later k1 c0; have s1 := cell_later k1 c1; have s2 := cell_later k1 d1)
        | (go_at_call 91; refine (Make_any _ _ (x.natAbs + y.natAbs) _ hs.out (by assumption)).mono ?_; rintro e w2 ⟨⟨b2, s2', rfl, h2⟩, hb2⟩; obtain ⟨ps, ns, cs, rfl⟩ := h2.form; have t0 := cell_later hb2 s0; have t1 := cell_later hb2 s1; have t2 := cell_later hb2 s2; have Z2 := (Z0.out.later k1).later hb2; have q0 := Z2.2.2 0 _ rfl; have q1 := Z2.2.2 1 _ rfl; have qf := Z2.2.1))
    go_wp2_with fail
    have B2 := Lib.hid (bthen (bthen B0.out k1) hb2)
    rw [SAx.out] at h2
    refine bodyPost_ret (v := .agg #[.bool b2, .slice ps ns cs]) ?_ rfl ⟨⟨_, _, rfl, h2.store2 _ _ Z2⟩, below_store2 B2.out (by omega) _ _⟩
    clear c0 c1 d0 d1 r0 r1 rf s0 s1 s2 t0 t1 t2 k1 hb1 hb2
    simp [results, Try.results87, go_sem, q0, q1]
  · have hbc' : (b == c) = false := by simp [hbc]
    have HBC := Lib.hid hbc
    clear hbc
    go_wp2_with fail
    refine (Cmp_any _ _ x.natAbs y.natAbs w0 HX.out HY.out A.out C.out).mono ?_
    rintro e w1 ⟨rfl, hb1⟩
    have A := Lib.hid (A.out.later hb1)
    have C := Lib.hid (C.out.later hb1)
    have X1 := Lib.hid (X0.out.later hb1)
    have Y1 := Lib.hid (Y0.out.later hb1)
    have Z1 := Lib.hid (Z0.out.later hb1)
    have B1 := Lib.hid (bthen B0.out hb1)
    clear c0 c1 d0 d1 r0 r1 rf e0 hb1
    have c0 := X1.out.2.2 0 _ rfl
    have c1 := X1.out.2.2 1 _ rfl
    have d0 := Y1.out.2.2 0 _ rfl
    have d1 := Y1.out.2.2 1 _ rfl
    by_cases hle : y.natAbs ≤ x.natAbs
    · have hm0 : 0 ≤ cmpN x.natAbs y.natAbs := by unfold cmpN; split; omega; split <;> omega
      obtain ⟨m, hm⟩ : ∃ m, m = cmpN x.natAbs y.natAbs := ⟨_, rfl⟩
      rw [← hm] at hm0 ⊢
      have HL := Lib.hid hle
      clear hm hle
      go_wp2_with fail
      refine (Sub_any _ _ x.natAbs y.natAbs w1 HX.out HL.out A.out C.out).mono ?_
      rintro e w2 ⟨⟨v2, rfl, h2⟩, hb2⟩
      have D2 := Lib.hid h2
      have X2 := Lib.hid (X1.out.later hb2)
      have Z2 := Lib.hid (Z1.out.later hb2)
      have B2 := Lib.hid (bthen B1.out hb2)
      clear c0 c1 d0 d1 h2 hb2
      have c0 := X2.out.2.2 0 _ rfl
      go_wp2_with fail
      refine (Make_any b v2 (x.natAbs - y.natAbs) w2 (HX.out.le (Nat.sub_le _ _)) D2.out).mono ?_
      rintro e w3 ⟨⟨b3, s3, rfl, h3⟩, hb3⟩
      rw [SS.out HBC.out HL.out] at h3
      obtain ⟨ps, ns, cs, rfl⟩ := h3.form
      have R := Lib.hid h3
      have Z3 := Lib.hid (Z2.out.later hb3)
      have B3 := Lib.hid (bthen B2.out hb3)
      clear c0 h3 hb3
      have q0 := Z3.out.2.2 0 _ rfl
      have q1 := Z3.out.2.2 1 _ rfl
      have qf := Z3.out.2.1
      go_wp2_with fail
      refine bodyPost_ret (v := .agg #[.bool b3, .slice ps ns cs]) ?_ rfl ⟨⟨_, _, rfl, R.out.store2 _ _ Z3.out⟩, below_store2 B3.out (by omega) _ _⟩
      simp [results, Try.results87, go_sem, q0, q1]
    · have hm0 : cmpN x.natAbs y.natAbs < 0 := by rw [cmpN_lt (by omega)]; omega
      obtain ⟨m, hm⟩ : ∃ m, m = cmpN x.natAbs y.natAbs := ⟨_, rfl⟩
      rw [← hm] at hm0 ⊢
      have HL : Hid (x.natAbs ≤ y.natAbs) := Lib.hid (by omega)
      clear hm hle
      go_wp2_with fail
      refine (Sub_any _ _ y.natAbs x.natAbs w1 HY.out HL.out C.out A.out).mono ?_
      rintro e w2 ⟨⟨v2, rfl, h2⟩, hb2⟩
      have D2 := Lib.hid h2
      have Y2 := Lib.hid (Y1.out.later hb2)
      have Z2 := Lib.hid (Z1.out.later hb2)
      have B2 := Lib.hid (bthen B1.out hb2)
      clear c0 c1 d0 d1 h2 hb2
      have d0 := Y2.out.2.2 0 _ rfl
      go_wp2_with fail
      refine (Make_any c v2 (y.natAbs - x.natAbs) w2 (HY.out.le (Nat.sub_le _ _)) D2.out).mono ?_
      rintro e w3 ⟨⟨b3, s3, rfl, h3⟩, hb3⟩
      rw [SS2.out (fun e => HBC.out e.symm) HL.out, Int.add_comm y x] at h3
      obtain ⟨ps, ns, cs, rfl⟩ := h3.form
      have R := Lib.hid h3
      have Z3 := Lib.hid (Z2.out.later hb3)
      have B3 := Lib.hid (bthen B2.out hb3)
      clear d0 h3 hb3
      have q0 := Z3.out.2.2 0 _ rfl
      have q1 := Z3.out.2.2 1 _ rfl
      have qf := Z3.out.2.1
      go_wp2_with fail
      refine bodyPost_ret (v := .agg #[.bool b3, .slice ps ns cs]) ?_ rfl ⟨⟨_, _, rfl, R.out.store2 _ _ Z3.out⟩, below_store2 B3.out (by omega) _ _⟩
      simp [results, Try.results87, go_sem, q0, q1]
end Go.Proofs.Ytbmbibjidpgbnaa
