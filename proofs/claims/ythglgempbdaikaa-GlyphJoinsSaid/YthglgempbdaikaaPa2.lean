/- Contracts of package path: right, check. -/
import Derived.Test.YthglgempbdaikaaPa1
namespace Go.Proofs.Ythglgempbdaikaa
open Go.RowKit

/-- a step's cells -/
abbrev stL (s : Nat → Int) : List Value := [.int .i64 (s 0), .int .i64 (s 1), .int .i64 (s 2), .int .i64 (s 3), .int .i64 (s 4), .int .i64 (s 5), .int .i64 (s 6)]
theorem st_pts {W : World} {A : Nat} {s : Nat → Int} (h : BxAt W A (stL s)) : PtAt W A 1 3 (sX s) (sY s) := by
  intro j hj
  have h4 : j = 0 ∨ j = 1 ∨ j = 2 := by omega
  rcases h4 with rfl | rfl | rfl
  · exact ⟨h.2.2 1 _ rfl, h.2.2 2 _ rfl⟩
  · exact ⟨h.2.2 3 _ rfl, h.2.2 4 _ rfl⟩
  · exact ⟨h.2.2 5 _ rfl, h.2.2 6 _ rfl⟩
set_option maxRecDepth 100000 in
set_option maxHeartbeats 3200000 in
theorem right_neg (x0 x1 x2 x3 x4 x5 x6 behind : Int) (w : World) (hneg : usesI x0 < 0) : Calls Try.prog 34 #[.agg #[.int .i64 x0, .int .i64 x1, .int .i64 x2, .int .i64 x3, .int .i64 x4, .int .i64 x5, .int .i64 x6], .int .i64 behind] w (RetPost (.int .i64 2) w) := by
  obtain ⟨w0, hw0⟩ : ∃ w0, w.alloc (.cells #[.int .i64 x0, .int .i64 x1, .int .i64 x2, .int .i64 x3, .int .i64 x4, .int .i64 x5, .int .i64 x6] 59) = w0 := ⟨_, rfl⟩
  have F0 : BxAt w0 w.heap.size [.int .i64 x0, .int .i64 x1, .int .i64 x2, .int .i64 x3, .int .i64 x4, .int .i64 x5, .int .i64 x6] := by rw [← hw0]; exact BxAt.new w _ _
  have B0 : Hid (Below w.heap.size w w0) := Lib.hid (by rw [← hw0]; exact below_alloc _ _)
  have UI := Lib.hid (fun W => uses_any x0 W)
  obtain ⟨u, hu⟩ : ∃ u, u = usesI x0 := ⟨_, rfl⟩
  rw [← hu] at UI hneg
  have i0 := F0.2.2 0 _ rfl
  clear hu F0
  go_enter Try.func34, Try.ntmps34
  go_wp2_with fail
  clear hw0
  refine (UI.out w0).mono ?_
  rintro e w1 ⟨rfl, rfl⟩
  go_wp2_with fail
  go_ret
  exact ⟨rfl, B0.out⟩
set_option maxRecDepth 100000 in
set_option maxHeartbeats 3200000 in
theorem right_bad (x0 x1 x2 x3 x4 x5 x6 behind : Int) (w : World) (hneg : ¬ usesI x0 < 0) (h1 : ¬ x0 = 1) (hb : behind = 0 ∨ behind = 5) : Calls Try.prog 34 #[.agg #[.int .i64 x0, .int .i64 x1, .int .i64 x2, .int .i64 x3, .int .i64 x4, .int .i64 x5, .int .i64 x6], .int .i64 behind] w (RetPost (.int .i64 12) w) := by
  obtain ⟨w0, hw0⟩ : ∃ w0, w.alloc (.cells #[.int .i64 x0, .int .i64 x1, .int .i64 x2, .int .i64 x3, .int .i64 x4, .int .i64 x5, .int .i64 x6] 59) = w0 := ⟨_, rfl⟩
  have F0 : BxAt w0 w.heap.size [.int .i64 x0, .int .i64 x1, .int .i64 x2, .int .i64 x3, .int .i64 x4, .int .i64 x5, .int .i64 x6] := by rw [← hw0]; exact BxAt.new w _ _
  have B0 : Hid (Below w.heap.size w w0) := Lib.hid (by rw [← hw0]; exact below_alloc _ _)
  have UI := Lib.hid (fun W => uses_any x0 W)
  obtain ⟨u, hu⟩ : ∃ u, u = usesI x0 := ⟨_, rfl⟩
  rw [← hu] at UI hneg
  have i0 := F0.2.2 0 _ rfl
  clear hu F0
  rcases hb with rfl | rfl
  all_goals
    go_enter Try.func34, Try.ntmps34
    go_wp2_with fail
    clear hw0
    refine (UI.out w0).mono ?_
    rintro e w1 ⟨rfl, rfl⟩
    go_wp2_with fail
    go_ret
    exact ⟨rfl, B0.out⟩
set_option maxRecDepth 100000 in
set_option maxHeartbeats 3200000 in
theorem right_go (x0 x1 x2 x3 x4 x5 x6 behind : Int) (X Y : Nat → Int) (n : Nat) (w : World) (hun : usesI x0 = (n : Int)) (hn3 : n ≤ 3) (hc : x0 = 1 ∨ ((x0 != 1) = true ∧ (behind == 0) = false ∧ (behind == 5) = false))
    (hP : ∀ W A, BxAt W A [.int .i64 x0, .int .i64 x1, .int .i64 x2, .int .i64 x3, .int .i64 x4, .int .i64 x5, .int .i64 x6] → PtAt W A 1 3 X Y) : Calls Try.prog 34 #[.agg #[.int .i64 x0, .int .i64 x1, .int .i64 x2, .int .i64 x3, .int .i64 x4, .int .i64 x5, .int .i64 x6], .int .i64 behind] w (RetPost (.int .i64 (if fitsTo X Y n = true then 0 else 4)) w) := by
  obtain ⟨w0, hw0⟩ : ∃ w0, w.alloc (.cells #[.int .i64 x0, .int .i64 x1, .int .i64 x2, .int .i64 x3, .int .i64 x4, .int .i64 x5, .int .i64 x6] 59) = w0 := ⟨_, rfl⟩
  have F0 : BxAt w0 w.heap.size [.int .i64 x0, .int .i64 x1, .int .i64 x2, .int .i64 x3, .int .i64 x4, .int .i64 x5, .int .i64 x6] := by rw [← hw0]; exact BxAt.new w _ _
  have B0 : Hid (Below w.heap.size w w0) := Lib.hid (by rw [← hw0]; exact below_alloc _ _)
  have UI := Lib.hid (fun W => uses_any x0 W)
  rw [hun] at UI
  have P0 := Lib.hid (hP _ _ F0)
  have i0 := F0.2.2 0 _ rfl
  obtain ⟨r, hr⟩ : ∃ r : Int, r = if fitsTo X Y n = true then 0 else 4 := ⟨_, rfl⟩
  have RR := Lib.hid hr
  rw [← hr]
  have hn4 : (0 : Int) ≤ (n : Int) := by omega
  have hn5 : (n : Int) ≤ 3 := by omega
  have hn6 : ¬ (n : Int) < 0 := by omega
  clear hun hP F0 hr
  have hdn : decide ((n : Int) < 0) = false := decide_eq_false hn6
  have hcc : x0 = 1 ∨ (x0 != 1) = true := hc.imp id (fun h => h.1)
  have hb0 : x0 = 1 ∨ (behind == 0) = false := hc.imp id (fun h => h.2.1)
  have hb5 : x0 = 1 ∨ (behind == 5) = false := hc.imp id (fun h => h.2.2)
  clear hc
  cases g0 : (behind == 0) <;> cases g5 : (behind == 5) <;> rcases hcc with rfl | h1
  all_goals (first | (exfalso; simp [g0] at hb0; simp [hb0] at h1; done) | (exfalso; simp [g5] at hb5; simp [hb5] at h1; done) | skip)
  all_goals clear hb0 hb5
  all_goals
    go_enter Try.func34, Try.ntmps34
    go_wp2_with fail
    clear hw0
    refine (UI.out w0).mono ?_
    rintro e w1 ⟨rfl, rfl⟩
    clear UI
    go_wp2_with fail
    try simp only [hdn]
    go_loopw [30] (fun i wr => ∃ k : Nat, k ≤ n ∧ i = .int .i64 k ∧ fitsTo X Y k = true ∧ Below w0.heap.size w0 wr) (fun i _ => n - (intOf i).toNat)
    case atStart => exact ⟨0, by omega, rfl, rfl, Below.refl _ _⟩
    case round =>
      obtain ⟨k, hk, rfl, hf, hb⟩ := hrel
      have HF := Lib.hid hf
      have B := Lib.hid hb
      clear hf hb
      by_cases hlt : k < n
      · obtain ⟨c0, c1⟩ := P0.out.later B.out k (by omega)
        obtain ⟨x, hx⟩ : ∃ x, x = X k := ⟨_, rfl⟩
        obtain ⟨y, hy⟩ : ∃ y, y = Y k := ⟨_, rfl⟩
        rw [← hx] at c0
        rw [← hy] at c1
        have HX := Lib.hid (And.intro hx hy)
        clear hx hy
        have hk0 : (0 : Int) ≤ (k : Int) := by omega
        have hk3 : (k : Int) < (n : Int) := by omega
        go_wp2_with fail
        refine (fits_any x y _).mono ?_
        rintro e w2 ⟨rfl, hw2⟩
        have B2 : Hid (Below w0.heap.size w0 w2) := Lib.hid (by rw [hw2]; exact bthen B.out (bel2 _ _ _))
        clear hw2
        cases hfit : fits x y
        · have e : r = 4 := by
            rw [RR.out, if_neg]
            rw [fitsTo_lt hlt (by rw [← HX.out.1, ← HX.out.2]; exact hfit)]
            simp
          subst e
          go_wp2_with fail
          go_ret
          exact ⟨rfl, bthen B0.out B2.out⟩
        · have HK : Hid (fitsTo X Y (k + 1) = true) := Lib.hid (by unfold fitsTo; rw [HF.out, ← HX.out.1, ← HX.out.2, hfit]; rfl)
          clear hfit
          go_wp2_with fail
          refine ⟨⟨k + 1, by omega, by go_num, HK.out, B2.out⟩, by (first | (simp [intOf]; done) | (simp [intOf]; omega) | (simp only [intOf]; omega))⟩
      · have ek : k = n := by omega
        subst ek
        have e : r = 0 := by rw [RR.out, if_pos HF.out]
        subst e
        go_wp2_with fail
        go_ret
        exact ⟨rfl, bthen B0.out B.out⟩
theorem right_any (s : Nat → Int) (behind : Int) (w : World) :
    Calls Try.prog 34 #[.agg #[.int .i64 (s 0), .int .i64 (s 1), .int .i64 (s 2), .int .i64 (s 3), .int .i64 (s 4), .int .i64 (s 5), .int .i64 (s 6)], .int .i64 behind] w (RetPost (.int .i64 (rightE s behind)) w) := by
  have ul := usesI_le (s 0)
  by_cases hneg : usesI (s 0) < 0
  · have e : rightE s behind = 2 := by unfold rightE; rw [if_pos hneg]
    rw [e]
    exact right_neg _ _ _ _ _ _ _ _ _ hneg
  by_cases hbad : s 0 ≠ 1 ∧ (behind = 0 ∨ behind = 5)
  · have e : rightE s behind = 12 := by unfold rightE; rw [if_neg hneg, if_pos hbad]
    rw [e]
    exact right_bad _ _ _ _ _ _ _ _ _ hneg hbad.1 hbad.2
  have e : rightE s behind = if fitsTo (sX s) (sY s) (usesN (s 0)) = true then 0 else 4 := by unfold rightE; rw [if_neg hneg, if_neg hbad]
  rw [e]
  refine right_go _ _ _ _ _ _ _ _ (sX s) (sY s) (usesN (s 0)) w (by unfold usesN; omega) (by unfold usesN; omega) ?_ (fun W A h => st_pts h)
  by_cases h1 : s 0 = 1
  · exact Or.inl h1
  · exact Or.inr ⟨by simpa using h1, by simpa using fun h => hbad ⟨h1, Or.inl h⟩, by simpa using fun h => hbad ⟨h1, Or.inr h⟩⟩
/-- a slice of n steps -/
def Sts (w : World) (sv : Value) (n : Nat) (F : Nat → Nat → Int) : Prop := ∃ (a : Option Addr) (cap : Nat), sv = .slice a n cap ∧ n ≤ 281474976710656 ∧ (0 < n → ∃ g off, a = some ⟨g, off, none⟩ ∧ ∀ j, j < n → ∀ t, t < 7 → w.cell? ⟨g, off + j * 7 + t, none⟩ = some (.int .i64 (F j t)))
theorem Sts.later {w w1 : World} {sv : Value} {n : Nat} {F : Nat → Nat → Int} (h : Sts w sv n F) (hb : Below w.heap.size w w1) : Sts w1 sv n F := by
  obtain ⟨a, cap, hv, hn, hc⟩ := h
  refine ⟨a, cap, hv, hn, fun h0 => ?_⟩
  obtain ⟨g, off, ha, hp⟩ := hc h0
  exact ⟨g, off, ha, fun j hj t ht => cell_later hb (hp j hj t ht)⟩
set_option maxRecDepth 100000 in
set_option maxHeartbeats 3200000 in
theorem check_any (sv : Value) (n : Nat) (F : Nat → Nat → Int) (w : World) (h : Sts w sv n F) : Calls Try.prog 21 #[sv] w (RetPost (.int .i64 (checkE F n)) w) := by
  have H := Lib.hid h
  obtain ⟨a, cap, rfl, hn, hc⟩ := h
  have C := Lib.hid hc
  clear hc
  by_cases hbig : 200 < n
  · have e : checkE F n = 7 := by unfold checkE; rw [if_pos hbig]
    rw [e]
    clear e
    go_enter Try.func21, Try.ntmps21
    go_wp2_with fail
    go_ret
    exact ⟨rfl, Below.refl _ _⟩
  have CE : Hid (checkE F n = chk F n) := Lib.hid (by unfold checkE; rw [if_neg hbig])
  rw [CE.out]
  have hn2 : n ≤ 200 := by omega
  go_enter Try.func21, Try.ntmps21
  go_wp2_with fail
  go_loopw [3, 12] (fun b i wr => ∃ k : Nat, k ≤ n ∧ i = .int .i64 k ∧ b = .int .i64 (beh F k) ∧ chk F k = 0 ∧ Below w.heap.size w wr) (fun _ i _ => n - (intOf i).toNat)
  case atStart => exact ⟨0, by omega, rfl, rfl, rfl, Below.refl _ _⟩
  case round =>
    obtain ⟨k, hk, rfl, rfl, hchk, hb⟩ := hrel
    have HC := Lib.hid hchk
    have B := Lib.hid hb
    clear hchk hb
    by_cases hlt : k < n
    · obtain ⟨g, off, rfl, hp⟩ := C.out (by omega)
      have c : ∀ t, t < 7 → wr.cell? ⟨g, off + k * 7 + t, none⟩ = some (.int .i64 (F k t)) := fun t ht => cell_later B.out (hp k hlt t ht)
      have c0 := c 0 (by omega)
      have c1 := c 1 (by omega)
      have c2 := c 2 (by omega)
      have c3 := c 3 (by omega)
      have c4 := c 4 (by omega)
      have c5 := c 5 (by omega)
      have c6 := c 6 (by omega)
      rw [Nat.add_zero] at c0
      have RA := Lib.hid (fun W => right_any (F k) (beh F k) W)
      have CS : Hid (chk F (k + 1) = rightE (F k) (beh F k)) := Lib.hid (by show (if chk F k = 0 then rightE (F k) (beh F k) else chk F k) = _; rw [if_pos HC.out])
      have CT : Hid (rightE (F k) (beh F k) ≠ 0 → chk F n = rightE (F k) (beh F k)) := Lib.hid (fun hne => by rw [← CS.out]; exact chk_stays (by rw [CS.out]; exact hne) (by omega))
      have BE : Hid (beh F (k + 1) = F k 0) := Lib.hid rfl
      obtain ⟨e, he⟩ : ∃ e, e = rightE (F k) (beh F k) := ⟨_, rfl⟩
      rw [← he] at RA CS CT
      obtain ⟨bb, hbb⟩ : ∃ b, b = beh F k := ⟨_, rfl⟩
      rw [← hbb] at RA ⊢
      obtain ⟨f0, hf0⟩ : ∃ x, x = F k 0 := ⟨_, rfl⟩
      obtain ⟨f1, hf1⟩ : ∃ x, x = F k 1 := ⟨_, rfl⟩
      obtain ⟨f2, hf2⟩ : ∃ x, x = F k 2 := ⟨_, rfl⟩
      obtain ⟨f3, hf3⟩ : ∃ x, x = F k 3 := ⟨_, rfl⟩
      obtain ⟨f4, hf4⟩ : ∃ x, x = F k 4 := ⟨_, rfl⟩
      obtain ⟨f5, hf5⟩ : ∃ x, x = F k 5 := ⟨_, rfl⟩
      obtain ⟨f6, hf6⟩ : ∃ x, x = F k 6 := ⟨_, rfl⟩
      rw [← hf0] at c0 BE
      rw [← hf1] at c1
      rw [← hf2] at c2
      rw [← hf3] at c3
      rw [← hf4] at c4
      rw [← hf5] at c5
      rw [← hf6] at c6
      rw [← hf0, ← hf1, ← hf2, ← hf3, ← hf4, ← hf5, ← hf6] at RA
      clear he hbb hf0 hf1 hf2 hf3 hf4 hf5 hf6 hp c
      have hk0 : (0 : Int) ≤ (k : Int) := by omega
      have hk3 : (k : Int) < (n : Int) := by omega
      go_wp2_with fail
      obtain ⟨w1, hw1⟩ : ∃ w1, w1 = wr.alloc (.cells #[.int .i64 f0, .int .i64 f1, .int .i64 f2, .int .i64 f3, .int .i64 f4, .int .i64 f5, .int .i64 f6] 59) := ⟨_, rfl⟩
      rw [← hw1]
      obtain ⟨G, hG⟩ : ∃ G, G = wr.heap.size := ⟨_, rfl⟩
      rw [← hG]
      have X1 : BxAt w1 G [.int .i64 f0, .int .i64 f1, .int .i64 f2, .int .i64 f3, .int .i64 f4, .int .i64 f5, .int .i64 f6] := by rw [hw1, hG]; exact BxAt.new wr _ _
      have B1 : Hid (Below w.heap.size w w1) := Lib.hid (by rw [hw1]; exact bthen B.out (below_alloc _ _))
      clear hw1 hG c0 c1 c2 c3 c4 c5 c6
      refine (RA.out w1).mono ?_
      rintro e2 w2 ⟨rfl, hb2⟩
      have d0 := (X1.later hb2).2.2 0 _ rfl
      have B2 := Lib.hid (bthen B1.out hb2)
      clear hb2 X1
      by_cases h0 : e = 0
      · subst h0
        go_wp2_with fail
        refine ⟨⟨k + 1, by omega, by go_num, by rw [BE.out], CS.out, B2.out⟩, by (first | (simp [intOf]; done) | (simp [intOf]; omega) | (simp only [intOf]; omega))⟩
      · have hh := Lib.hid (CT.out h0)
        go_wp2_with fail
        go_ret
        exact ⟨by rw [hh.out]; rfl, B2.out⟩
    · obtain rfl : k = n := by omega
      go_wp2_with fail
      go_ret
      exact ⟨by rw [HC.out]; rfl, B.out⟩
end Go.Proofs.Ythglgempbdaikaa
