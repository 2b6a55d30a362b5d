/- Contracts of the reference's fractions: Reduce, Int, Half. -/
import Derived.Test.YtbmbibjidpgbnaaFra1
namespace Go.Proofs.Ytbmbibjidpgbnaa
open Go.RowKit

theorem sgn_div {z : Int} {b : Bool} {g : Nat} (h : b = decide (z < 0)) (hg : g ∣ z.natAbs) : sgn b (z.natAbs / g) = z / (g : Int) := by
  subst h
  obtain ⟨k, hk⟩ := hg
  rcases Nat.eq_zero_or_pos g with h0 | h0
  · subst h0; simp [sgn]
  · rw [hk, Nat.mul_div_cancel_left _ h0]
    unfold sgn
    by_cases hz : z < 0
    · simp only [hz, decide_true, if_true]
      have e : z = (g : Int) * (-(k : Int)) := by rw [Int.mul_neg, ← Int.natCast_mul, ← hk]; omega
      rw [e, Int.mul_ediv_cancel_left _ (by omega)]
    · simp only [hz, decide_false, Bool.false_eq_true, if_false]
      have e : z = (g : Int) * (k : Int) := by rw [← Int.natCast_mul, ← hk]; omega
      rw [e, Int.mul_ediv_cancel_left _ (by omega)]
theorem red_rat {z : Int} {n : Nat} {b : Bool} (hn : 0 < n) (h : b = decide (z < 0)) : sgn b (z.natAbs / Nat.gcd z.natAbs n) = (mkRat z n).num ∧ n / Nat.gcd z.natAbs n = (mkRat z n).den := by
  rw [sgn_div h (Nat.gcd_dvd_left _ _), Rat.num_mkRat, Rat.den_mkRat, if_neg (by omega), if_neg (by omega), Nat.gcd_comm n]
  exact ⟨rfl, rfl⟩
theorem size_set3 (w : World) (g : Nat) (x y z : Value) : (set3 w g x y z).heap.size = w.heap.size := by simp [set3]
theorem nt_new1' {w : World} {g : Nat} (h : g = w.heap.size) : Nt (w.alloc (.cells #[.int .u32 1] 132)) (.slice (some ⟨g, 0, none⟩) 1 1) 1 := by subst h; exact nt_new1 w
theorem below_set3_alloc {w0 w : World} {g : Nat} (h : Below w0.heap.size w0 w) (hg : w0.heap.size ≤ g) (x y z : Value) (o : Obj) : Below w0.heap.size w0 ((set3 w g x y z).alloc o) :=
  (below_store3 h hg x y z).alloc (by rw [size_set3]; exact h.size) o
theorem whp_zero (w : World) : Whp w false (.slice none 0 0) 0 := ⟨rfl, Rd.nil _ _, ⟨_, _, _, rfl, by omega⟩⟩
set_option maxRecDepth 100000 in
set_option maxHeartbeats 1600000 in
theorem FReduce_any (b : Bool) (s d : Value) (z : Int) (n : Nat) (w : World) (hz : Small z.natAbs) (hn : Small n) (h0 : 0 < n) (h : Whp w b s z) (h2 : Nt w d n) :
    Calls Try.prog 86 #[.agg #[.bool b, s, d]] w (FrPost (mkRat z n) w) := by
  obtain ⟨ps, ms, cs, rfl⟩ := h.form
  obtain ⟨pd, nd, cd, rfl⟩ := h2.form
  have A := Lib.hid h
  have D := Lib.hid h2
  have HZ := Lib.hid hz
  have HN := Lib.hid (And.intro hn h0)
  have RR := Lib.hid (red_rat h0 h.1)
  clear h h2 hz hn h0
  go_enter Try.func86, Try.ntmps86
  obtain ⟨w0, hw0⟩ : ∃ w0, w0 = (w.alloc (.cells #[.bool b, .slice ps ms cs, .slice pd nd cd] 106)).alloc (.cells #[.bool false, .slice none 0 0, .slice none 0 0] 106) := ⟨_, rfl⟩
  have X0 := Lib.hid (show BxAt w0 w.heap.size [.bool b, .slice ps ms cs, .slice pd nd cd] by rw [hw0]; exact bx_a w _ _ _)
  have Y0 := Lib.hid (show BxAt w0 (w.heap.size + 1) [.bool false, .slice none 0 0, .slice none 0 0] by rw [hw0]; exact bx_b w _ _ _)
  have B0 : Hid (Below w.heap.size w w0) := Lib.hid (by rw [hw0]; exact bel2 _ _ _)
  have e0 : (w.alloc (.cells #[.bool b, .slice ps ms cs, .slice pd nd cd] 106)).alloc (.cells #[.bool false, .slice none 0 0, .slice none 0 0] 106) = w0 := hw0.symm
  clear hw0
  have c2 := X0.out.2.2 2 _ rfl
  have A := Lib.hid (A.out.later B0.out)
  have D := Lib.hid (D.out.later B0.out)
  go_wp2_with fail
  clear e0
  refine (Bits_any _ n w0 HN.out.1 D.out).mono ?_
  rintro e w1 ⟨r, rfl, hr, hb1⟩
  have hr1 : (r == 0) = false := by
    have h0 := HN.out.2
    simp; intro e; have := hr.1 e; omega
  have X1 := Lib.hid (X0.out.later hb1)
  have Y1 := Lib.hid (Y0.out.later hb1)
  have A := Lib.hid (A.out.later hb1)
  have D := Lib.hid (D.out.later hb1)
  have B1 := Lib.hid (bthen B0.out hb1)
  clear hr hb1 c2
  have c1 := X1.out.2.2 1 _ rfl
  go_wp2_with fail
  refine (Bits_any _ z.natAbs w1 HZ.out A.out.2).mono ?_
  rintro e w2 ⟨r2, rfl, hr2, hb2⟩
  have X2 := Lib.hid (X1.out.later hb2)
  have Y2 := Lib.hid (Y1.out.later hb2)
  have A := Lib.hid (A.out.later hb2)
  have D := Lib.hid (D.out.later hb2)
  have B2 := Lib.hid (bthen B1.out hb2)
  clear hb2 c1 hr1
  by_cases hz0 : z = 0
  · have hr3 : (r2 == 0) = true := by simp; exact hr2.2 (by omega)
    clear hr2
    have r0 := Y2.out.2.2 0 _ rfl
    have r1 := Y2.out.2.2 1 _ rfl
    have r2' := Y2.out.2.2 2 _ rfl
    have rf := Y2.out.2.1
    have zr := Y2.out.1
    go_wp2_with fail
    have hm : mkRat z n = 0 := by rw [hz0]; simp
    refine bodyPost_ret (v := .agg #[.bool false, .slice none 0 0, .slice (some ⟨w2.heap.size, 0, none⟩) 1 1]) ?_ rfl ⟨⟨_, _, _, rfl, ?_⟩, below_set3_alloc B2.out (by omega) _ _ _ _⟩
    · simp [results, Try.results86, go_sem, r0, r1, r2', zr]
    · rw [hm]
      exact ⟨whp_zero _, nt_new1' (size_set3 w2 _ _ _ _).symm⟩
  · have hr3 : (r2 == 0) = false := by
      simp; intro e; have := hr2.1 e; omega
    have HZ0 : Hid (0 < z.natAbs) := Lib.hid (by omega)
    clear hr2 hz0
    have c1 := X2.out.2.2 1 _ rfl
    have c2 := X2.out.2.2 2 _ rfl
    go_wp2_with fail
    refine (Red_any _ _ z.natAbs n w2 HZ.out HN.out.1 HZ0.out HN.out.2 A.out.2 D.out).mono ?_
    rintro e w3 ⟨⟨v3, u3, rfl, hv3, hu3⟩, hb3⟩
    rw [RR.out.2] at hu3
    obtain ⟨pu, nu, cu, rfl⟩ := hu3.form
    have V3 := Lib.hid hv3
    have U3 := Lib.hid hu3
    have X3 := Lib.hid (X2.out.later hb3)
    have Y3 := Lib.hid (Y2.out.later hb3)
    have B3 := Lib.hid (bthen B2.out hb3)
    clear hb3 hv3 hu3 c1 c2 hr3
    have c0 := X3.out.2.2 0 _ rfl
    go_wp2_with fail
    refine (Make_any b _ _ w3 (HZ.out.le (Nat.div_le_self _ _)) V3.out).mono ?_
    rintro e w4 ⟨⟨b4, s4, rfl, h4⟩, hb4⟩
    rw [RR.out.1] at h4
    obtain ⟨p4, n4, c4, rfl⟩ := h4.form
    have R4 := Lib.hid h4
    have U4 := Lib.hid (U3.out.later hb4)
    have Y4 := Lib.hid (Y3.out.later hb4)
    have B4 := Lib.hid (bthen B3.out hb4)
    clear hb4 h4 c0
    have r0 := Y4.out.2.2 0 _ rfl
    have r1 := Y4.out.2.2 1 _ rfl
    have r2' := Y4.out.2.2 2 _ rfl
    have rf := Y4.out.2.1
    go_wp2_with fail
    refine bodyPost_ret (v := .agg #[.bool b4, .slice p4 n4 c4, .slice pu nu cu]) ?_ rfl ⟨⟨_, _, _, rfl, Frp.store3 _ _ _ ⟨R4.out, U4.out⟩ Y4.out⟩, below_store3 B4.out (by omega) _ _ _⟩
    simp [results, Try.results86, go_sem, r0, r1, r2']
set_option maxRecDepth 100000 in
set_option maxHeartbeats 1600000 in
theorem FInt_any (n : Int) (w : World) (h0 : -I63 ≤ n) (h1 : n < I63) : Calls Try.prog 61 #[.int .i64 n] w (FrPost (n : Rat) w) := by
  have H := Lib.hid (And.intro h0 h1)
  clear h0 h1
  go_enter Try.func61, Try.ntmps61
  obtain ⟨w0, hw0⟩ : ∃ w0, w0 = w.alloc (.cells #[.bool false, .slice none 0 0, .slice none 0 0] 106) := ⟨_, rfl⟩
  have Y0 := Lib.hid (show BxAt w0 w.heap.size [.bool false, .slice none 0 0, .slice none 0 0] by rw [hw0]; exact BxAt.new w _ _)
  have B0 : Hid (Below w.heap.size w w0) := Lib.hid (by rw [hw0]; exact below_alloc _ _)
  have e0 : w.alloc (.cells #[.bool false, .slice none 0 0, .slice none 0 0] 106) = w0 := hw0.symm
  clear hw0
  go_wp2_with fail
  clear e0
  refine (WOf_any n w0 H.out.1 H.out.2).mono ?_
  rintro e w1 ⟨⟨b1, s1, rfl, h1⟩, hb1⟩
  obtain ⟨p1, n1, c1, rfl⟩ := h1.form
  have R1 := Lib.hid h1
  have Y1 := Lib.hid (Y0.out.later hb1)
  have B1 := Lib.hid (bthen B0.out hb1)
  clear h1 hb1
  have r0 := Y1.out.2.2 0 _ rfl
  have r1 := Y1.out.2.2 1 _ rfl
  have r2' := Y1.out.2.2 2 _ rfl
  have rf := Y1.out.2.1
  have zr := Y1.out.1
  go_wp2_with fail
  refine bodyPost_ret (v := .agg #[.bool b1, .slice p1 n1 c1, .slice (some ⟨w1.heap.size, 0, none⟩) 1 1]) ?_ rfl ⟨⟨_, _, _, rfl, ?_⟩, below_set3_alloc B1.out (by omega) _ _ _ _⟩
  · simp [results, Try.results61, go_sem, r0, r1, r2', zr]
  · exact ⟨(R1.out.store3 _ _ _ Y1.out).later (below_alloc _ _), nt_new1' (size_set3 w1 _ _ _ _).symm⟩
theorem half_num : (mkRat 1 2).num = 1 ∧ (mkRat 1 2).den = 2 := by decide
theorem nt_new2 {w : World} {g : Nat} (h : g = w.heap.size) : Nt (w.alloc (.cells #[.int .u32 2] 132)) (.slice (some ⟨g, 0, none⟩) 1 1) 2 := by
  subst h
  have h0 : Rd .u32 (w.alloc (.cells #[.int .u32 2] 132)) (.slice (some ⟨w.heap.size, 0, none⟩) 1 1) [2] := ⟨_, _, rfl, by simp, fun _ => ⟨_, _, rfl, fun j hj => by
    have : j = 0 := by simp at hj; omega
    subst this
    rw [World.cell?_alloc_new]; rfl⟩⟩
  exact ⟨by rw [show dg 4294967296 2 = [2] by decide]; exact h0, ⟨_, _, _, rfl, by omega⟩⟩
set_option maxRecDepth 100000 in
set_option maxHeartbeats 1600000 in
theorem FHalf_any (w : World) : Calls Try.prog 84 #[] w (FrPost (mkRat 1 2) w) := by
  go_enter Try.func84, Try.ntmps84
  obtain ⟨w0, hw0⟩ : ∃ w0, w0 = w.alloc (.cells #[.bool false, .slice none 0 0, .slice none 0 0] 106) := ⟨_, rfl⟩
  have Y0 := Lib.hid (show BxAt w0 w.heap.size [.bool false, .slice none 0 0, .slice none 0 0] by rw [hw0]; exact BxAt.new w _ _)
  have B0 : Hid (Below w.heap.size w w0) := Lib.hid (by rw [hw0]; exact below_alloc _ _)
  have e0 : w.alloc (.cells #[.bool false, .slice none 0 0, .slice none 0 0] 106) = w0 := hw0.symm
  clear hw0
  go_wp2_with fail
  clear e0
  refine (WOf_any 1 w0 (by unfold I63; omega) (by unfold I63; omega)).mono ?_
  rintro e w1 ⟨⟨b1, s1, rfl, h1⟩, hb1⟩
  obtain ⟨p1, n1, c1, rfl⟩ := h1.form
  have R1 := Lib.hid h1
  have Y1 := Lib.hid (Y0.out.later hb1)
  have B1 := Lib.hid (bthen B0.out hb1)
  clear h1 hb1
  have r0 := Y1.out.2.2 0 _ rfl
  have r1 := Y1.out.2.2 1 _ rfl
  have r2' := Y1.out.2.2 2 _ rfl
  have rf := Y1.out.2.1
  have zr := Y1.out.1
  go_wp2_with fail
  refine bodyPost_ret (v := .agg #[.bool b1, .slice p1 n1 c1, .slice (some ⟨w1.heap.size, 0, none⟩) 1 1]) ?_ rfl ⟨⟨_, _, _, rfl, ?_⟩, below_set3_alloc B1.out (by omega) _ _ _ _⟩
  · simp [results, Try.results84, go_sem, r0, r1, r2', zr]
  · exact ⟨by rw [half_num.1]; exact (R1.out.store3 _ _ _ Y1.out).later (below_alloc _ _), by rw [half_num.2]; exact nt_new2 (size_set3 w1 _ _ _ _).symm⟩
end Go.Proofs.Ytbmbibjidpgbnaa
