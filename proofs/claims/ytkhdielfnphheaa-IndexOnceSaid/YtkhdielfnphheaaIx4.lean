/- Contract of the sort's symMerge, where the second part is one element. -/
import Derived.Test.YtkhdielfnphheaaIx3
namespace Go.Proofs.Ytkhdielfnphheaa
open Go.RowKit

set_option maxRecDepth 100000 in
set_option maxHeartbeats 6400000 in
theorem merge_right (A N cap : Nat) (E : Nat → Ent) (a m : Nat) (w : World) (h : EntB w A N E) (hN : N ≤ 4000000000000) (hM : Mrg E a m (m + 1)) (hb : m + 1 ≤ N) (hab : a + 1 < m) :
    Calls Try.prog 74 #[.slice (some ⟨A, 0, none⟩) N cap, .int .i64 a, .int .i64 m, .int .i64 (m + 1 : Nat), cmpV] w (SortPost A N a (m + 1) E w) := by
  have H := Lib.hid h
  have MM := Lib.hid hM
  clear h hM
  obtain ⟨b, hm⟩ : ∃ b, b = m + 1 := ⟨_, rfl⟩
  have HM := Lib.hid hm
  have m0 : (m : Int) - (a : Int) = ((m - a : Nat) : Int) := by omega
  obtain ⟨ma, hma⟩ : ∃ x, x = m - a := ⟨_, rfl⟩
  rw [← hma] at m0
  have m3 : 1 < ma := by omega
  have m2 : ((ma : Int) == 1) = false := by simp; omega
  have m4 : ma ≤ 4000000000000 := by omega
  have m1 : (b : Int) - (m : Int) = 1 := by omega
  have hmb : m < b := by omega
  have hbN : b ≤ N := by omega
  rw [← hm]
  clear hm hma hb
  go_enter Try.func74, Try.ntmps74
  go_wp2_with fail
  go_loopw [14, 15] (fun x y wr => ∃ i j : Nat, x = .int .i64 i ∧ y = .int .i64 j ∧ (a ≤ i ∧ i ≤ j ∧ j ≤ m) ∧ (a < i → elt (E (i - 1)) (E m)) ∧ (j < m → elt (E m) (E j)) ∧ EntB wr A N E ∧ FrmA w wr A) (fun x y _ => (intOf y).toNat - (intOf x).toNat)
  case atStart => exact ⟨a, m, rfl, rfl, ⟨Nat.le_refl _, by omega, Nat.le_refl _⟩, fun h => by omega, fun h => by omega, H.out, FrmA.refl _ _⟩
  case round =>
    obtain ⟨i, j, rfl, rfl, ⟨i1, i2, i3⟩, lo, hi, hen, hfr⟩ := hrel
    have FR := Lib.hid hfr
    have EN := Lib.hid hen
    have LO := Lib.hid lo
    have HI := Lib.hid hi
    clear hfr lo hi
    by_cases hlt : i < j
    · have hij : (i : Int) < (j : Int) := by omega
      obtain ⟨x, hx⟩ : ∃ x, x = i + j := ⟨_, rfl⟩
      have xs : (i : Int) + (j : Int) = (x : Int) := by omega
      have xw : IntKind.i64.wrap ((i : Int) + (j : Int)) = (x : Int) := by rw [xs]; exact IntWalk.i64_in _ (by omega)
      obtain ⟨u1, u2, u3⟩ := half_run x (by omega)
      obtain ⟨c, hc⟩ : ∃ c, c = x / 2 := ⟨_, rfl⟩
      rw [← hc] at u2 u3
      have c1 : i ≤ c ∧ c < j := by omega
      obtain ⟨c11, c12⟩ := c1
      have xb : x ≤ 8000000000000 := by omega
      have xI : (x : Int) ≤ 8000000000000 := by omega
      clear hx hc
      have STP : Hid ((E m).1 < (E c).1 → c < m → elt (E m) (E c)) := Lib.hid (fun h _ => elt_lt h)
      have STO : Hid (¬ (E m).1 < (E c).1 → a < c + 1 → elt (E c) (E m)) := Lib.hid (fun h _ => elt_of h (MM.out.place c m (by omega) (by omega) (Nat.le_refl m) (by omega)))
      have hcN : c < N := by omega
      have hmN : m < N := by omega
      have hcI : (c : Int) < (N : Int) := by omega
      have hmI : (m : Int) < (N : Int) := by omega
      have hc0 : (0 : Int) ≤ (c : Int) := by omega
      have hm0 : (0 : Int) ≤ (m : Int) := by omega
      have C0 : C4 wr A m c (E m).1 (E m).2 (E c).1 (E c).2 := hen.two hmN hcN
      have CM := Lib.hid (fun W => cmp_any (E m).1 (E m).2 (E c).1 (E c).2 W)
      have CN := cmp_neg (E m).1 (E c).1
      obtain ⟨x0, hx0⟩ : ∃ x, x = (E m).1 := ⟨_, rfl⟩
      obtain ⟨y0, hy0⟩ : ∃ x, x = (E m).2 := ⟨_, rfl⟩
      obtain ⟨x1, hx1⟩ : ∃ x, x = (E c).1 := ⟨_, rfl⟩
      obtain ⟨y1, hy1⟩ : ∃ x, x = (E c).2 := ⟨_, rfl⟩
      rw [← hx0, ← hx1] at STP STO CM CN C0
      rw [← hy0, ← hy1] at CM C0
      obtain ⟨cv, hcv⟩ : ∃ c, c = cmpI x0 x1 := ⟨_, rfl⟩
      rw [← hcv] at CM CN
      clear hx0 hy0 hx1 hy1 hcv hen
      have C0H := Lib.hid C0
      have CC := C0
      have k8 : Below wr.heap.size wr wr := Below.refl _ _
      go_wp2_with fail
      go_region_held3 (fun w' => w'.cell? ⟨A, m * 2, none⟩ = some (.int .i64 x0) ∧ w'.cell? ⟨A, m * 2 + 1, none⟩ = some (.int .i64 y0) ∧ w'.cell? ⟨A, c * 2, none⟩ = some (.int .i64 x1) ∧ w'.cell? ⟨A, c * 2 + 1, none⟩ = some (.int .i64 y1))
        (first | with_reducible exact CC.cells | with_reducible exact CC.drew.cells)
        (first
          | (go_at_call 52; (with_reducible refine (CM.out wr.drew).mono ?_); rintro e v1 ⟨rfl, hb⟩; have k8 : Below wr.heap.size wr v1 := bel_drew hb; have CC := C0H.out.later k8))
      all_goals
        have E1 := Lib.hid (EN.out.later k8)
        have F1 := Lib.hid (FR.out.trans (FrmA.of_below k8))
        by_cases hc : x0 < x1
        · have dc : decide (cv < 0) = true := decide_eq_true (CN.2 hc)
          have hc0 : cv < 0 := CN.2 hc
          have hc1 : ¬ 0 ≤ cv := by omega
          have dd : (!decide (x0 < x1)) = false := by rw [decide_eq_true hc]; rfl
          have S1 := Lib.hid (STP.out hc)
          clear CC STP STO CN
          go_wp2_with fail
          all_goals first
            | exact Bool.noConfusion (dd.symm.trans (by assumption) : false = true)
            | exact ⟨⟨i, c, rfl, rfl, ⟨i1, c11, by omega⟩, LO.out, S1.out, E1.out, F1.out⟩, by (first | (simp [intOf]; done) | (simp [intOf]; omega) | (simp only [intOf]; omega))⟩
        · have dc : decide (cv < 0) = false := decide_eq_false (fun h => hc (CN.1 h))
          have hc0 : ¬ cv < 0 := fun h => hc (CN.1 h)
          have hc1 : 0 ≤ cv := by omega
          have dd : (!decide (x0 < x1)) = true := by rw [decide_eq_false hc]; rfl
          have S1 := Lib.hid (STO.out (by omega))
          clear CC STP STO CN
          go_wp2_with fail
          all_goals first
            | exact Bool.noConfusion (dd.symm.trans (by assumption) : true = false)
            | exact ⟨⟨c + 1, j, by go_num, rfl, ⟨by omega, by omega, i3⟩, fun h => by rw [Nat.add_sub_cancel]; exact S1.out h, HI.out, E1.out, F1.out⟩, by (first | (simp [intOf]; done) | (simp [intOf]; omega) | (simp only [intOf]; omega))⟩
    · have hij : ¬ (i : Int) < (j : Int) := by omega
      obtain rfl : i = j := by omega
      have SL := Lib.hid (single_right MM.out (i := i) i1 i3 LO.out HI.out)
      have SM := Lib.hid (rot_same E (show i ≤ m by omega) (show m ≤ m + 1 by omega))
      have OM := Lib.hid (rot_out E (show i ≤ m by omega) (show m ≤ m + 1 by omega))
      have R0 := Lib.hid (rot_none2 E m (m + 1))
      go_wp2_with fail
      go_loopw [17] (fun x wz => ∃ k : Nat, x = .int .i64 k ∧ i ≤ k ∧ k ≤ m ∧ EntB wz A N (rotF E k m (m + 1)) ∧ FrmA w wz A) (fun x _ => (intOf x).toNat)
      case atStart => exact ⟨m, rfl, i3, Nat.le_refl m, by rw [R0.out]; exact EN.out, FR.out⟩
      case round =>
        obtain ⟨k, rfl, k1, k2, heg, hfg⟩ := hrel
        have EG := Lib.hid heg
        have FG := Lib.hid hfg
        clear hfg
        by_cases hlt : i < k
        · obtain ⟨q, hq⟩ : ∃ q, q + 1 = k := ⟨k - 1, by omega⟩
          have HS : Hid (rotF E q m (m + 1) = swapF (rotF E k m (m + 1)) k q) := Lib.hid (by rw [← hq]; exact (mov_left (by omega)).symm)
          obtain ⟨F, hF⟩ : ∃ F, F = rotF E k m (m + 1) := ⟨_, rfl⟩
          rw [← hF] at HS heg EG
          have hpN : k < N := by omega
          have hqN : q < N := by omega
          have hpq : k ≠ q := by omega
          have iq : (k : Int) - 1 = (q : Int) := by omega
          have hpI : (k : Int) < (N : Int) := by omega
          have hqI : (q : Int) < (N : Int) := by omega
          obtain ⟨c0, c1⟩ := heg.2.2 k hpN
          obtain ⟨d0, d1⟩ := heg.2.2 q hqN
          have fz := heg.2.1
          have zA := heg.1
          have S1 := Lib.hid (heg.swap hpN hqN)
          obtain ⟨xp, hxp⟩ : ∃ x, x = (F k).1 := ⟨_, rfl⟩
          obtain ⟨yp, hyp⟩ : ∃ x, x = (F k).2 := ⟨_, rfl⟩
          obtain ⟨xq, hxq⟩ : ∃ x, x = (F q).1 := ⟨_, rfl⟩
          obtain ⟨yq, hyq⟩ : ∃ x, x = (F q).2 := ⟨_, rfl⟩
          rw [← hxp, ← hyp, ← hxq, ← hyq] at S1
          rw [← hxp] at c0
          rw [← hyp] at c1
          rw [← hxq] at d0
          rw [← hyq] at d1
          have hk0 : (0 : Int) ≤ (k : Int) := by omega
          have hk3 : (i : Int) < (k : Int) := by omega
          have QQ := Lib.hid hq
          clear hF hq hxp hyp hxq hyq heg
          go_wp2_with fail
          go_region
          go_wp2_with fail
          have := QQ.out
          refine ⟨⟨q, by first | rfl | go_num, by omega, by omega, by rw [HS.out]; exact S1.out.drew, FG.out.set.set.set.set.drew⟩, by (first | (simp [intOf]; done) | (simp [intOf]; omega) | (simp only [intOf]; omega))⟩
        · obtain rfl : k = i := by omega
          have hk3 : ¬ (k : Int) < (k : Int) := by omega
          have EN2 := Lib.hid heg
          have FIN : Hid (∃ E', EntB wr A N E' ∧ Sorted E' a (m + 1) ∧ Same E E' a (m + 1) ∧ Out E E' a (m + 1)) := Lib.hid ⟨_, EN2.out, SL.out, SM.out.wide OM.out i1 (Nat.le_refl _), OM.out.wide i1 (Nat.le_refl _)⟩
          rw [← HM.out] at FIN
          clear heg
          go_wp2_with fail
          refine bodyPost_end (results_none rfl _ _ _) rfl ⟨rfl, FG.out, FIN.out⟩
end Go.Proofs.Ytkhdielfnphheaa
