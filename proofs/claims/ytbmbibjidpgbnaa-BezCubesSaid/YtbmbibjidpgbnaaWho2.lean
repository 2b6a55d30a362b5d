/- Contracts of the reference's whole numbers: Sign, Neg. -/
import Derived.Test.YtbmbibjidpgbnaaWho1
namespace Go.Proofs.Ytbmbibjidpgbnaa
open Go.RowKit

def SignPost (z : Int) (w : World) (e : Ending) (w' : World) : Prop := e = .returned (.int .i64 z.sign) ∧ Below w.heap.size w w'
set_option maxRecDepth 100000 in
set_option maxHeartbeats 1600000 in
theorem Sign_any (b : Bool) (s : Value) (z : Int) (w : World) (hn : Small z.natAbs) (h : Whp w b s z) : Calls Try.prog 90 #[.agg #[.bool b, s]] w (SignPost z w) := by
  obtain ⟨hb, h⟩ := h
  have A := Lib.hid h
  have HB := Lib.hid hb
  have HN := Lib.hid hn
  clear h hb hn
  go_enter Try.func90, Try.ntmps90
  obtain ⟨w0, hw0⟩ : ∃ w0, w0 = w.alloc (.cells #[.bool b, s] 104) := ⟨_, rfl⟩
  have X0 := Lib.hid (show BxAt w0 w.heap.size [.bool b, s] by rw [hw0]; exact BxAt.new w _ _)
  have B0 : Hid (Below w.heap.size w w0) := Lib.hid (by rw [hw0]; exact below_alloc _ _)
  have c0 := X0.out.2.2 0 _ rfl
  have c1 := X0.out.2.2 1 _ rfl
  have e0 : w.alloc (.cells #[.bool b, s] 104) = w0 := hw0.symm
  clear hw0
  go_wp2_with fail
  have A := Lib.hid (A.out.later B0.out)
  refine (Bits_any _ z.natAbs w0 HN.out A.out).mono ?_
  rintro e w1 ⟨r, rfl, hr, hb1⟩
  have c0 := cell_later hb1 c0
  have R := Lib.hid hr
  have B1 := Lib.hid (bthen B0.out hb1)
  clear hr hb1 e0 c1
  by_cases hr0 : r = 0
  · have hz : Hid (z.sign = 0) := Lib.hid (by have := R.out.1 hr0; rw [show z = 0 by omega]; rfl)
    subst hr0
    go_wp2_with fail
    go_ret
    exact ⟨by rw [hz.out]; rfl, B1.out⟩
  · have hr1 : (r == 0) = false := by simp; exact hr0
    have hz0 : Hid (z ≠ 0) := Lib.hid (fun e => hr0 (R.out.2 (by omega)))
    cases b
    · have hz : Hid (z.sign = 1) := Lib.hid (by
        have h1 := HB.out
        have h2 := hz0.out
        have h3 : ¬ z < 0 := of_decide_eq_false h1.symm
        exact Int.sign_eq_one_of_pos (by omega))
      go_wp2_with fail
      go_ret
      exact ⟨by rw [hz.out]; rfl, B1.out⟩
    · have hz : Hid (z.sign = -1) := Lib.hid (by
        have h1 := HB.out
        have h3 : z < 0 := of_decide_eq_true h1.symm
        exact Int.sign_eq_neg_one_of_neg h3)
      go_wp2_with fail
      go_ret
      exact ⟨by rw [hz.out]; rfl, B1.out⟩
theorem sgn_not {z : Int} {b : Bool} (h : b = decide (z < 0)) : sgn (!b) z.natAbs = -z := by
  subst h
  unfold sgn
  by_cases hz : z < 0
  · simp [hz]; omega
  · simp [hz]; omega
theorem sgn_self {z : Int} {b : Bool} (h : b = decide (z < 0)) : sgn b z.natAbs = z := by
  subst h
  unfold sgn
  by_cases hz : z < 0
  · simp [hz]; omega
  · simp [hz]; omega
set_option maxRecDepth 100000 in
set_option maxHeartbeats 1600000 in
theorem Neg_any (b : Bool) (s : Value) (z : Int) (w : World) (hn : Small z.natAbs) (h : Whp w b s z) : Calls Try.prog 111 #[.agg #[.bool b, s]] w (WhPost (-z) w) := by
  obtain ⟨hb, h⟩ := h
  have A := Lib.hid h
  have HB := Lib.hid hb
  have HN := Lib.hid hn
  clear h hb hn
  go_enter Try.func111, Try.ntmps111
  obtain ⟨w0, hw0⟩ : ∃ w0, w0 = (w.alloc (.cells #[.bool b, s] 104)).alloc (.cells #[.bool false, .slice none 0 0] 104) := ⟨_, rfl⟩
  have X0 := Lib.hid (show BxAt w0 w.heap.size [.bool b, s] by rw [hw0]; exact bx_a w _ _ _)
  have Y0 := Lib.hid (show BxAt w0 (w.heap.size + 1) [.bool false, .slice none 0 0] by rw [hw0]; exact bx_b w _ _ _)
  have B0 : Hid (Below w.heap.size w w0) := Lib.hid (by rw [hw0]; exact bel2 _ _ _)
  have c0 := X0.out.2.2 0 _ rfl
  have c1 := X0.out.2.2 1 _ rfl
  have e0 : (w.alloc (.cells #[.bool b, s] 104)).alloc (.cells #[.bool false, .slice none 0 0] 104) = w0 := hw0.symm
  clear hw0
  go_wp2_with fail
  have A := Lib.hid (A.out.later B0.out)
  refine (Make_any (!b) s z.natAbs w0 HN.out A.out).mono ?_
  rintro e w1 ⟨⟨b1, s1, rfl, hr⟩, hb1⟩
  rw [sgn_not HB.out] at hr
  obtain ⟨ps, ns, cs, rfl⟩ := hr.form
  have R := Lib.hid hr
  have Y1 := Lib.hid (Y0.out.later hb1)
  have B1 := Lib.hid (bthen B0.out hb1)
  clear hr hb1 e0 c0 c1
  have d0 := Y1.out.2.2 0 _ rfl
  have d1 := Y1.out.2.2 1 _ rfl
  have f0 := Y1.out.2.1
  have z1 := Y1.out.1
  go_wp2_with fail
  refine bodyPost_ret (v := .agg #[.bool b1, .slice ps ns cs]) ?_ rfl ⟨⟨b1, _, rfl, R.out.store2 _ _ Y1.out⟩, below_store2 B1.out (by omega) _ _⟩
  simp [results, Try.results111, go_sem, *]
end Go.Proofs.Ytbmbibjidpgbnaa
