/- Contract of the tracer's step. -/
import Derived.Test.YthglgempbdaikaaPa7
namespace Go.Proofs.Ythglgempbdaikaa
open Go.RowKit
set_option linter.unusedVariables false

set_option maxRecDepth 100000 in
set_option maxHeartbeats 3200000 in
theorem step1_any (T Bd Bn : Nat) (t : TS) (x1 x2 x3 x4 x5 x6 : Int) (w : World) (hl : t.now.length ≤ 80000) (hd : t.done.length ≤ 80000) (hT : TrS w T Bd Bn t) :
    Calls Try.prog 22 #[.pointer (some ⟨T, 0, none⟩), .agg #[.int .i64 1, .int .i64 x1, .int .i64 x2, .int .i64 x3, .int .i64 x4, .int .i64 x5, .int .i64 x6]] w (FinPost T Bd ((t.fin false).add (x1, x2)) w) := by
  obtain ⟨w0, hw0⟩ : ∃ w0, w.alloc (.cells #[.int .i64 1, .int .i64 x1, .int .i64 x2, .int .i64 x3, .int .i64 x4, .int .i64 x5, .int .i64 x6] 59) = w0 := ⟨_, rfl⟩
  have A0 : Hid (BxAt w0 w.heap.size [.int .i64 1, .int .i64 x1, .int .i64 x2, .int .i64 x3, .int .i64 x4, .int .i64 x5, .int .i64 x6]) := Lib.hid (by rw [← hw0]; exact BxAt.new w _ _)
  have B0 : Hid (Below w.heap.size w w0) := Lib.hid (by rw [← hw0]; exact below_alloc _ _)
  have HT := Lib.hid (hT.later B0.out)
  have zT := hT.lt
  have FA : Hid (Fre w0 T w.heap.size) := Lib.hid (hT.fre B0.out (Nat.le_refl _) A0.out.1)
  have i0 := A0.out.2.2 0 _ rfl
  have i1 := A0.out.2.2 1 _ rfl
  have i2 := A0.out.2.2 2 _ rfl
  have i3 := A0.out.2.2 3 _ rfl
  have i4 := A0.out.2.2 4 _ rfl
  have i5 := A0.out.2.2 5 _ rfl
  have i6 := A0.out.2.2 6 _ rfl
  clear hT
  go_enter Try.func22, Try.ntmps22
  go_wp2_with fail
  clear hw0
  refine (fin_any T Bd Bn t false w0 (by omega) (by omega) HT.out).mono ?_
  rintro e1 w1 ⟨rfl, B1, ht1, hf1⟩
  have T1 := Lib.hid ht1
  have F1 := Lib.hid ((Frm.of_below zT B0.out).trans hf1)
  have j1 := hf1.cell FA.out i1
  have j2 := hf1.cell FA.out i2
  clear ht1 hf1 i0 i1 i2 i3 i4 i5 i6
  go_wp2_with fail
  obtain ⟨w3, hw3⟩ : ∃ w3, w3 = w1.alloc (.cells #[.int .i64 x1, .int .i64 x2] 42) := ⟨_, rfl⟩
  rw [← hw3]
  obtain ⟨G, hG⟩ : ∃ G, G = w1.heap.size := ⟨_, rfl⟩
  rw [← hG]
  have X3 : BxAt w3 G [.int .i64 x1, .int .i64 x2] := by rw [hw3, hG]; exact BxAt.new w1 _ _
  have b3 : Below w1.heap.size w1 w3 := by rw [hw3]; exact below_alloc _ _
  have T3 := Lib.hid (T1.out.later b3)
  have FG := Lib.hid (T1.out.fre b3 (by omega) X3.1)
  have B3 := Lib.hid b3
  clear hw3 hG b3
  refine (add_any T Bd B1 _ _ 1 1 (fun _ => x1) (fun _ => x2) w3 (by first | omega | (have := (fin_len t false).1; omega)) T3.out (fun _ => ⟨G, 0, rfl, FG.out, fun j hj => ?_⟩)).mono ?_
  · obtain rfl : j = 0 := by omega
    exact ⟨X3.2.2 0 _ rfl, X3.2.2 1 _ rfl⟩
  rintro e4 w4 ⟨rfl, ht4, hf4⟩
  have T4 := Lib.hid ht4
  have F4 := Lib.hid hf4
  clear ht4 hf4 X3
  go_wp2_with fail
  exact bodyPost_end (results_none rfl _ _ _) rfl ⟨rfl, _, T4.out, F1.out.trans ((Frm.of_below T1.out.lt B3.out).trans F4.out)⟩
set_option maxRecDepth 100000 in
set_option maxHeartbeats 3200000 in
theorem step2_any (T Bd Bn : Nat) (t : TS) (x1 x2 x3 x4 x5 x6 : Int) (w : World) (hl : t.now.length ≤ 80000) (hd : t.done.length ≤ 80000) (hT : TrS w T Bd Bn t) :
    Calls Try.prog 22 #[.pointer (some ⟨T, 0, none⟩), .agg #[.int .i64 2, .int .i64 x1, .int .i64 x2, .int .i64 x3, .int .i64 x4, .int .i64 x5, .int .i64 x6]] w (FinPost T Bd (t.add (x1, x2)) w) := by
  obtain ⟨w0, hw0⟩ : ∃ w0, w.alloc (.cells #[.int .i64 2, .int .i64 x1, .int .i64 x2, .int .i64 x3, .int .i64 x4, .int .i64 x5, .int .i64 x6] 59) = w0 := ⟨_, rfl⟩
  have A0 : Hid (BxAt w0 w.heap.size [.int .i64 2, .int .i64 x1, .int .i64 x2, .int .i64 x3, .int .i64 x4, .int .i64 x5, .int .i64 x6]) := Lib.hid (by rw [← hw0]; exact BxAt.new w _ _)
  have B0 : Hid (Below w.heap.size w w0) := Lib.hid (by rw [← hw0]; exact below_alloc _ _)
  have HT := Lib.hid (hT.later B0.out)
  have zT := hT.lt
  have FA : Hid (Fre w0 T w.heap.size) := Lib.hid (hT.fre B0.out (Nat.le_refl _) A0.out.1)
  have i0 := A0.out.2.2 0 _ rfl
  have i1 := A0.out.2.2 1 _ rfl
  have i2 := A0.out.2.2 2 _ rfl
  have i3 := A0.out.2.2 3 _ rfl
  have i4 := A0.out.2.2 4 _ rfl
  have i5 := A0.out.2.2 5 _ rfl
  have i6 := A0.out.2.2 6 _ rfl
  clear hT
  go_enter Try.func22, Try.ntmps22
  go_wp2_with fail
  clear hw0
  clear i0 i1 i2 i3 i4 i5 i6
  obtain ⟨w3, hw3⟩ : ∃ w3, w3 = w0.alloc (.cells #[.int .i64 x1, .int .i64 x2] 42) := ⟨_, rfl⟩
  rw [← hw3]
  obtain ⟨G, hG⟩ : ∃ G, G = w0.heap.size := ⟨_, rfl⟩
  rw [← hG]
  have X3 : BxAt w3 G [.int .i64 x1, .int .i64 x2] := by rw [hw3, hG]; exact BxAt.new w0 _ _
  have b3 : Below w0.heap.size w0 w3 := by rw [hw3]; exact below_alloc _ _
  have T3 := Lib.hid (HT.out.later b3)
  have FG := Lib.hid (HT.out.fre b3 (by omega) X3.1)
  have B3 := Lib.hid b3
  clear hw3 hG b3
  refine (add_any T Bd Bn _ _ 1 1 (fun _ => x1) (fun _ => x2) w3 (by first | omega | (have := hl; omega)) T3.out (fun _ => ⟨G, 0, rfl, FG.out, fun j hj => ?_⟩)).mono ?_
  · obtain rfl : j = 0 := by omega
    exact ⟨X3.2.2 0 _ rfl, X3.2.2 1 _ rfl⟩
  rintro e4 w4 ⟨rfl, ht4, hf4⟩
  have T4 := Lib.hid ht4
  have F4 := Lib.hid hf4
  clear ht4 hf4 X3
  go_wp2_with fail
  exact bodyPost_end (results_none rfl _ _ _) rfl ⟨rfl, _, T4.out, (Frm.of_below zT B0.out).trans ((Frm.of_below HT.out.lt B3.out).trans F4.out)⟩
set_option maxRecDepth 100000 in
set_option maxHeartbeats 3200000 in
theorem step3_any (T Bd Bn : Nat) (t : TS) (x1 x2 x3 x4 x5 x6 : Int) (w : World) (X Y : Nat → Int) (N : Nat) (hN : N ≤ 32) (hC : ∀ W, TrS W T Bd Bn t → Calls Try.prog 36 #[.pointer (some ⟨T, 0, none⟩), .agg #[.int .i64 3, .int .i64 x1, .int .i64 x2, .int .i64 x3, .int .i64 x4, .int .i64 x5, .int .i64 x6]] W (AddPost T Bd Bn (t.adds X Y N) W)) (hl : t.now.length ≤ 80000) (hd : t.done.length ≤ 80000) (hT : TrS w T Bd Bn t) :
    Calls Try.prog 22 #[.pointer (some ⟨T, 0, none⟩), .agg #[.int .i64 3, .int .i64 x1, .int .i64 x2, .int .i64 x3, .int .i64 x4, .int .i64 x5, .int .i64 x6]] w (FinPost T Bd (t.adds X Y N) w) := by
  obtain ⟨w0, hw0⟩ : ∃ w0, w.alloc (.cells #[.int .i64 3, .int .i64 x1, .int .i64 x2, .int .i64 x3, .int .i64 x4, .int .i64 x5, .int .i64 x6] 59) = w0 := ⟨_, rfl⟩
  have A0 : Hid (BxAt w0 w.heap.size [.int .i64 3, .int .i64 x1, .int .i64 x2, .int .i64 x3, .int .i64 x4, .int .i64 x5, .int .i64 x6]) := Lib.hid (by rw [← hw0]; exact BxAt.new w _ _)
  have B0 : Hid (Below w.heap.size w w0) := Lib.hid (by rw [← hw0]; exact below_alloc _ _)
  have HT := Lib.hid (hT.later B0.out)
  have zT := hT.lt
  have FA : Hid (Fre w0 T w.heap.size) := Lib.hid (hT.fre B0.out (Nat.le_refl _) A0.out.1)
  have i0 := A0.out.2.2 0 _ rfl
  have i1 := A0.out.2.2 1 _ rfl
  have i2 := A0.out.2.2 2 _ rfl
  have i3 := A0.out.2.2 3 _ rfl
  have i4 := A0.out.2.2 4 _ rfl
  have i5 := A0.out.2.2 5 _ rfl
  have i6 := A0.out.2.2 6 _ rfl
  clear hT
  have HC := Lib.hid hC
  clear hC
  go_enter Try.func22, Try.ntmps22
  go_wp2_with fail
  clear hw0
  refine (HC.out w0 HT.out).mono ?_
  rintro e1 w1 ⟨rfl, ht1, hf1⟩
  have T1 := Lib.hid ht1
  have F1 := Lib.hid ((Frm.of_below zT B0.out).trans hf1)
  clear ht1 hf1 i0 i1 i2 i3 i4 i5 i6
  go_wp2_with fail
  exact bodyPost_end (results_none rfl _ _ _) rfl ⟨rfl, _, T1.out, F1.out⟩
set_option maxRecDepth 100000 in
set_option maxHeartbeats 3200000 in
theorem step4_any (T Bd Bn : Nat) (t : TS) (x1 x2 x3 x4 x5 x6 : Int) (w : World) (X Y : Nat → Int) (N : Nat) (hN : N ≤ 32) (hC : ∀ W, TrS W T Bd Bn t → Calls Try.prog 36 #[.pointer (some ⟨T, 0, none⟩), .agg #[.int .i64 4, .int .i64 x1, .int .i64 x2, .int .i64 x3, .int .i64 x4, .int .i64 x5, .int .i64 x6]] W (AddPost T Bd Bn (t.adds X Y N) W)) (hl : t.now.length ≤ 80000) (hd : t.done.length ≤ 80000) (hT : TrS w T Bd Bn t) :
    Calls Try.prog 22 #[.pointer (some ⟨T, 0, none⟩), .agg #[.int .i64 4, .int .i64 x1, .int .i64 x2, .int .i64 x3, .int .i64 x4, .int .i64 x5, .int .i64 x6]] w (FinPost T Bd (t.adds X Y N) w) := by
  obtain ⟨w0, hw0⟩ : ∃ w0, w.alloc (.cells #[.int .i64 4, .int .i64 x1, .int .i64 x2, .int .i64 x3, .int .i64 x4, .int .i64 x5, .int .i64 x6] 59) = w0 := ⟨_, rfl⟩
  have A0 : Hid (BxAt w0 w.heap.size [.int .i64 4, .int .i64 x1, .int .i64 x2, .int .i64 x3, .int .i64 x4, .int .i64 x5, .int .i64 x6]) := Lib.hid (by rw [← hw0]; exact BxAt.new w _ _)
  have B0 : Hid (Below w.heap.size w w0) := Lib.hid (by rw [← hw0]; exact below_alloc _ _)
  have HT := Lib.hid (hT.later B0.out)
  have zT := hT.lt
  have FA : Hid (Fre w0 T w.heap.size) := Lib.hid (hT.fre B0.out (Nat.le_refl _) A0.out.1)
  have i0 := A0.out.2.2 0 _ rfl
  have i1 := A0.out.2.2 1 _ rfl
  have i2 := A0.out.2.2 2 _ rfl
  have i3 := A0.out.2.2 3 _ rfl
  have i4 := A0.out.2.2 4 _ rfl
  have i5 := A0.out.2.2 5 _ rfl
  have i6 := A0.out.2.2 6 _ rfl
  clear hT
  have HC := Lib.hid hC
  clear hC
  go_enter Try.func22, Try.ntmps22
  go_wp2_with fail
  clear hw0
  refine (HC.out w0 HT.out).mono ?_
  rintro e1 w1 ⟨rfl, ht1, hf1⟩
  have T1 := Lib.hid ht1
  have F1 := Lib.hid ((Frm.of_below zT B0.out).trans hf1)
  clear ht1 hf1 i0 i1 i2 i3 i4 i5 i6
  go_wp2_with fail
  exact bodyPost_end (results_none rfl _ _ _) rfl ⟨rfl, _, T1.out, F1.out⟩
set_option maxRecDepth 100000 in
set_option maxHeartbeats 3200000 in
theorem step5_any (T Bd Bn : Nat) (t : TS) (x1 x2 x3 x4 x5 x6 : Int) (w : World) (hl : t.now.length ≤ 80000) (hd : t.done.length ≤ 80000) (hT : TrS w T Bd Bn t) :
    Calls Try.prog 22 #[.pointer (some ⟨T, 0, none⟩), .agg #[.int .i64 5, .int .i64 x1, .int .i64 x2, .int .i64 x3, .int .i64 x4, .int .i64 x5, .int .i64 x6]] w (FinPost T Bd (t.fin true) w) := by
  obtain ⟨w0, hw0⟩ : ∃ w0, w.alloc (.cells #[.int .i64 5, .int .i64 x1, .int .i64 x2, .int .i64 x3, .int .i64 x4, .int .i64 x5, .int .i64 x6] 59) = w0 := ⟨_, rfl⟩
  have A0 : Hid (BxAt w0 w.heap.size [.int .i64 5, .int .i64 x1, .int .i64 x2, .int .i64 x3, .int .i64 x4, .int .i64 x5, .int .i64 x6]) := Lib.hid (by rw [← hw0]; exact BxAt.new w _ _)
  have B0 : Hid (Below w.heap.size w w0) := Lib.hid (by rw [← hw0]; exact below_alloc _ _)
  have HT := Lib.hid (hT.later B0.out)
  have zT := hT.lt
  have FA : Hid (Fre w0 T w.heap.size) := Lib.hid (hT.fre B0.out (Nat.le_refl _) A0.out.1)
  have i0 := A0.out.2.2 0 _ rfl
  have i1 := A0.out.2.2 1 _ rfl
  have i2 := A0.out.2.2 2 _ rfl
  have i3 := A0.out.2.2 3 _ rfl
  have i4 := A0.out.2.2 4 _ rfl
  have i5 := A0.out.2.2 5 _ rfl
  have i6 := A0.out.2.2 6 _ rfl
  clear hT
  go_enter Try.func22, Try.ntmps22
  go_wp2_with fail
  clear hw0
  refine (fin_any T Bd Bn t true w0 (by omega) (by omega) HT.out).mono ?_
  rintro e1 w1 ⟨rfl, B1, ht1, hf1⟩
  have T1 := Lib.hid ht1
  have F1 := Lib.hid ((Frm.of_below zT B0.out).trans hf1)
  clear ht1 hf1 i0 i1 i2 i3 i4 i5 i6
  go_wp2_with fail
  exact bodyPost_end (results_none rfl _ _ _) rfl ⟨rfl, _, T1.out, F1.out⟩
set_option maxRecDepth 100000 in
set_option maxHeartbeats 3200000 in
theorem step0_any (T Bd Bn : Nat) (t : TS) (x0 x1 x2 x3 x4 x5 x6 : Int) (w : World) (g1 : (x0 == 1) = false) (g2 : (x0 == 2) = false) (g3 : (x0 == 3) = false) (g4 : (x0 == 4) = false) (g5 : (x0 == 5) = false) (hl : t.now.length ≤ 80000) (hd : t.done.length ≤ 80000) (hT : TrS w T Bd Bn t) :
    Calls Try.prog 22 #[.pointer (some ⟨T, 0, none⟩), .agg #[.int .i64 x0, .int .i64 x1, .int .i64 x2, .int .i64 x3, .int .i64 x4, .int .i64 x5, .int .i64 x6]] w (FinPost T Bd (t) w) := by
  obtain ⟨w0, hw0⟩ : ∃ w0, w.alloc (.cells #[.int .i64 x0, .int .i64 x1, .int .i64 x2, .int .i64 x3, .int .i64 x4, .int .i64 x5, .int .i64 x6] 59) = w0 := ⟨_, rfl⟩
  have A0 : Hid (BxAt w0 w.heap.size [.int .i64 x0, .int .i64 x1, .int .i64 x2, .int .i64 x3, .int .i64 x4, .int .i64 x5, .int .i64 x6]) := Lib.hid (by rw [← hw0]; exact BxAt.new w _ _)
  have B0 : Hid (Below w.heap.size w w0) := Lib.hid (by rw [← hw0]; exact below_alloc _ _)
  have HT := Lib.hid (hT.later B0.out)
  have zT := hT.lt
  have FA : Hid (Fre w0 T w.heap.size) := Lib.hid (hT.fre B0.out (Nat.le_refl _) A0.out.1)
  have i0 := A0.out.2.2 0 _ rfl
  have i1 := A0.out.2.2 1 _ rfl
  have i2 := A0.out.2.2 2 _ rfl
  have i3 := A0.out.2.2 3 _ rfl
  have i4 := A0.out.2.2 4 _ rfl
  have i5 := A0.out.2.2 5 _ rfl
  have i6 := A0.out.2.2 6 _ rfl
  clear hT
  have e1 : ¬ x0 = 1 := by simpa using g1
  have e2 : ¬ x0 = 2 := by simpa using g2
  have e3 : ¬ x0 = 3 := by simpa using g3
  have e4 : ¬ x0 = 4 := by simpa using g4
  have e5 : ¬ x0 = 5 := by simpa using g5
  go_enter Try.func22, Try.ntmps22
  go_wp2_with fail
  clear hw0
  exact bodyPost_end (results_none rfl _ _ _) rfl ⟨rfl, _, HT.out, Frm.of_below zT B0.out⟩
theorem step_any (T Bd Bn : Nat) (t : TS) (s : Nat → Int) (w : World) (hl : t.now.length ≤ 80000) (hd : t.done.length ≤ 80000) (hT : TrS w T Bd Bn t) :
    Calls Try.prog 22 #[.pointer (some ⟨T, 0, none⟩), .agg #[.int .i64 (s 0), .int .i64 (s 1), .int .i64 (s 2), .int .i64 (s 3), .int .i64 (s 4), .int .i64 (s 5), .int .i64 (s 6)]] w (FinPost T Bd (t.step s) w) := by
  by_cases h1 : s 0 = 1
  · have e : t.step s = (t.fin false).add (s 1, s 2) := if_pos h1
    rw [e, h1]
    exact step1_any T Bd Bn t _ _ _ _ _ _ w hl hd hT
  by_cases h2 : s 0 = 2
  · have e : t.step s = t.add (s 1, s 2) := by unfold TS.step; rw [if_neg h1, if_pos h2]
    rw [e, h2]
    exact step2_any T Bd Bn t _ _ _ _ _ _ w hl hd hT
  by_cases h3 : s 0 = 3
  · have e : t.step s = t.curve 3 s := by unfold TS.step; rw [if_neg h1, if_neg h2, if_pos h3]
    rw [e, h3]
    refine step3_any T Bd Bn t _ _ _ _ _ _ w (crvX 3 t.pos s) (crvY 3 t.pos s) (crvN 3 t.pos s) (crvN_le _ _ _) (fun W hW => curve3_any T Bd Bn t _ _ _ _ _ _ _ _ _ W (crvN_le _ _ _) (by omega) hW (fun W2 => ?_)) hl hd hT
    refine (quad_any (crv t.pos s) W2).mono fun e W3 h => ⟨h.1, ?_⟩
    rcases h.2 with h | ⟨_, h⟩
    · exact Or.inl h
    · exact Or.inr h
  by_cases h4 : s 0 = 4
  · have e : t.step s = t.curve 4 s := by unfold TS.step; rw [if_neg h1, if_neg h2, if_neg h3, if_pos h4]
    rw [e, h4]
    refine step4_any T Bd Bn t _ _ _ _ _ _ w (crvX 4 t.pos s) (crvY 4 t.pos s) (crvN 4 t.pos s) (crvN_le _ _ _) (fun W hW => curve4_any T Bd Bn t _ _ _ _ _ _ _ _ _ W (crvN_le _ _ _) (by omega) hW (fun W2 => ?_)) hl hd hT
    refine (cube_any (crv t.pos s) W2).mono fun e W3 h => ⟨h.1, ?_⟩
    rcases h.2 with h | ⟨_, h⟩
    · exact Or.inl h
    · exact Or.inr h
  by_cases h5 : s 0 = 5
  · have e : t.step s = t.fin true := by unfold TS.step; rw [if_neg h1, if_neg h2, if_neg h3, if_neg h4, if_pos h5]
    rw [e, h5]
    exact step5_any T Bd Bn t _ _ _ _ _ _ w hl hd hT
  have e : t.step s = t := by unfold TS.step; rw [if_neg h1, if_neg h2, if_neg h3, if_neg h4, if_neg h5]
  rw [e]
  exact step0_any T Bd Bn t _ _ _ _ _ _ _ w (by simpa using h1) (by simpa using h2) (by simpa using h3) (by simpa using h4) (by simpa using h5) hl hd hT
end Go.Proofs.Ythglgempbdaikaa
