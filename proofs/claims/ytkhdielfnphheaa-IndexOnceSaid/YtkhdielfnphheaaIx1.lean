/- Contracts of the sort's swapRange and rotate. -/
import Derived.Test.YtkhdielfnphheaaIx0
namespace Go.Proofs.Ytkhdielfnphheaa
open Go.RowKit

def ArrPost (A n : Nat) (E : Nat → Ent) (w : World) (e : Ending) (w' : World) : Prop := e = .returned (.tuple #[]) ∧ EntB w' A n E ∧ FrmA w w' A
set_option maxRecDepth 100000 in
set_option maxHeartbeats 6400000 in
theorem swapRange_any (A N cap : Nat) (E : Nat → Ent) (a b n : Nat) (fv : Value) (w : World) (h : EntB w A N E) (hN : N ≤ 4000000000000) (hab : a + n ≤ b) (hb : b + n ≤ N) :
    Calls Try.prog 90 #[.slice (some ⟨A, 0, none⟩) N cap, .int .i64 a, .int .i64 b, .int .i64 n, fv] w (ArrPost A N (swpF E a b n) w) := by
  have H := Lib.hid h
  clear h
  go_enter Try.func90, Try.ntmps90
  go_wp2_with fail
  go_loopw [10] (fun i wr => ∃ k : Nat, k ≤ n ∧ i = .int .i64 k ∧ EntB wr A N (swpF E a b k) ∧ FrmA w wr A) (fun i _ => n - (intOf i).toNat)
  case atStart => exact ⟨0, by omega, rfl, by rw [swp_zero]; exact H.out, FrmA.refl _ _⟩
  case round =>
    obtain ⟨k, hk, rfl, hen, hfr⟩ := hrel
    have FR := Lib.hid hfr
    have EN := Lib.hid hen
    clear hfr
    by_cases hlt : k < n
    · obtain ⟨p, hp⟩ : ∃ p, p = a + k := ⟨_, rfl⟩
      obtain ⟨q, hq⟩ : ∃ q, q = b + k := ⟨_, rfl⟩
      have HS : Hid (swpF E a b (k + 1) = swapF (swpF E a b k) p q) := Lib.hid (by rw [hp, hq]; exact swp_succ hab hlt)
      obtain ⟨F, hF⟩ : ∃ F, F = swpF E a b k := ⟨_, rfl⟩
      rw [← hF] at HS hen EN
      have hpN : p < N := by omega
      have hqN : q < N := by omega
      have hpq : p ≠ q := by omega
      have ip : (a : Int) + (k : Int) = (p : Int) := by omega
      have iq : (b : Int) + (k : Int) = (q : Int) := by omega
      have hpI : (p : Int) < (N : Int) := by omega
      have hqI : (q : Int) < (N : Int) := by omega
      obtain ⟨c0, c1⟩ := hen.2.2 p hpN
      obtain ⟨d0, d1⟩ := hen.2.2 q hqN
      have fz := hen.2.1
      have zA := hen.1
      have S1 := Lib.hid (hen.swap hpN hqN)
      have S2 := Lib.hid (hen.swap hqN hpN)
      rw [swap_sym F q p] at S2
      obtain ⟨xp, hxp⟩ : ∃ x, x = (F p).1 := ⟨_, rfl⟩
      obtain ⟨yp, hyp⟩ : ∃ x, x = (F p).2 := ⟨_, rfl⟩
      obtain ⟨xq, hxq⟩ : ∃ x, x = (F q).1 := ⟨_, rfl⟩
      obtain ⟨yq, hyq⟩ : ∃ x, x = (F q).2 := ⟨_, rfl⟩
      rw [← hxp, ← hyp, ← hxq, ← hyq] at S1 S2
      rw [← hxp] at c0
      rw [← hyp] at c1
      rw [← hxq] at d0
      rw [← hyq] at d1
      have hk0 : (0 : Int) ≤ (k : Int) := by omega
      have hk3 : (k : Int) < (n : Int) := by omega
      have ni1 : (⟨A, p * 2, none⟩ : Addr) ≠ ⟨A, q * 2, none⟩ := by simp only [ne_eq, Addr.mk.injEq]; omega
      clear hF hp hq hxp hyp hxq hyq hen
      go_wp2_with fail
      go_region
      go_wp2_with fail
      refine ⟨⟨k + 1, by omega, by go_num, by rw [HS.out]; exact S1.out.drew, FR.out.set.set.set.set.drew⟩, by (first | (simp [intOf]; done) | (simp [intOf]; omega) | (simp only [intOf]; omega))⟩
    · obtain rfl : k = n := by omega
      have EN2 := Lib.hid hen
      go_wp2_with fail
      refine bodyPost_end (results_none rfl _ _ _) rfl ⟨rfl, EN2.out, FR.out⟩
set_option maxRecDepth 100000 in
set_option maxHeartbeats 6400000 in
theorem rotate_any (A N cap : Nat) (E : Nat → Ent) (lo m hi : Nat) (fv : Value) (w : World) (h : EntB w A N E) (hN : N ≤ 4000000000000) (h1 : lo < m) (h2 : m < hi) (h3 : hi ≤ N) :
    Calls Try.prog 85 #[.slice (some ⟨A, 0, none⟩) N cap, .int .i64 lo, .int .i64 m, .int .i64 hi, fv] w (ArrPost A N (rotF E lo m hi) w) := by
  have H := Lib.hid h
  clear h
  have j1 : (m : Int) - (lo : Int) = ((m - lo : Nat) : Int) := by omega
  have j2 : (hi : Int) - (m : Int) = ((hi - m : Nat) : Int) := by omega
  obtain ⟨i0, hi0⟩ : ∃ i, i = m - lo := ⟨_, rfl⟩
  obtain ⟨k0, hk0⟩ : ∃ k, k = hi - m := ⟨_, rfl⟩
  rw [← hi0] at j1
  rw [← hk0] at j2
  have R0 : Hid (rotF E lo m hi = rotF E (m - i0) m (m + k0)) := Lib.hid (by
    have e1 : m - i0 = lo := by omega
    have e2 : m + k0 = hi := by omega
    rw [e1, e2])
  have b1 : 0 < i0 ∧ i0 ≤ m := by omega
  have b2 : 0 < k0 ∧ m + k0 ≤ N := by omega
  obtain ⟨b11, b12⟩ := b1
  obtain ⟨b21, b22⟩ := b2
  obtain ⟨R, hR⟩ : ∃ R, R = rotF E lo m hi := ⟨_, rfl⟩
  rw [← hR] at R0 ⊢
  clear hR hi0 hk0
  go_enter Try.func85, Try.ntmps85
  go_wp2_with fail
  go_loopw [10, 11] (fun x y wr => ∃ (i j : Nat) (F : Nat → Ent), x = .int .i64 i ∧ y = .int .i64 j ∧ (0 < i ∧ i ≤ m ∧ 0 < j ∧ m + j ≤ N) ∧ EntB wr A N F ∧ R = rotF F (m - i) m (m + j) ∧ FrmA w wr A) (fun x y _ => (intOf x).toNat + (intOf y).toNat)
  case atStart => exact ⟨i0, k0, E, rfl, rfl, ⟨b11, b12, b21, b22⟩, H.out, R0.out, FrmA.refl _ _⟩
  case round =>
    obtain ⟨i, j, F, rfl, rfl, ⟨q1, q2, q3, q4⟩, hen, hrt, hfr⟩ := hrel
    have FR := Lib.hid hfr
    have EN := Lib.hid hen
    have RT := Lib.hid hrt
    clear hfr hen hrt R0 H
    have mi : (m : Int) - (i : Int) = ((m - i : Nat) : Int) := by omega
    obtain ⟨mI, hmI⟩ : ∃ x, x = m - i := ⟨_, rfl⟩
    rw [← hmI] at mi
    have MI := Lib.hid hmI
    rcases Nat.lt_trichotomy i j with c | c | c
    · have d0 : ((i : Int) != (j : Int)) = true := by simp; omega
      have d1 : ¬ (j : Int) < (i : Int) := by omega
      have d2 : decide ((j : Int) < (i : Int)) = false := decide_eq_false d1
      have SW := Lib.hid (fun W (hW : EntB W A N F) => swapRange_any A N cap F (m - i) (m + j - i) i fv W hW hN (by omega) (by omega))
      have RL := Lib.hid (rot_less (E := F) q2 c q1)
      have e5 : (m : Int) + (j : Int) - (i : Int) = ((m + j - i : Nat) : Int) := by omega
      obtain ⟨mj, hmj⟩ : ∃ x, x = m + j - i := ⟨_, rfl⟩
      rw [← hmj] at SW RL e5
      rw [← hmI] at SW RL
      have e6 : (j : Int) - (i : Int) = ((j - i : Nat) : Int) := by omega
      obtain ⟨ji, hji⟩ : ∃ x, x = j - i := ⟨_, rfl⟩
      rw [← hji] at e6 RL
      have JI := Lib.hid hji
      clear hmj hmI hji
      go_wp2_with fail
      refine (SW.out wr EN.out).mono ?_
      rintro e w2 ⟨rfl, hen2, hfr2⟩
      have EN2 := Lib.hid hen2
      have FR2 := Lib.hid (FR.out.trans hfr2)
      clear hen2 hfr2
      go_wp2_with fail
      refine ⟨⟨i, ji, swpF F mI mj i, rfl, by go_num, ⟨q1, q2, by have := JI.out; omega, by have := JI.out; omega⟩, EN2.out, ?_, FR2.out⟩, ?_⟩
      · rw [RT.out, ← MI.out]; exact RL.out.symm
      · have := JI.out
        simp only [intOf]
        omega
    · have d0 : ((i : Int) != (j : Int)) = false := by simp; omega
      have SW := Lib.hid (fun W (hW : EntB W A N F) => swapRange_any A N cap F (m - i) m i fv W hW hN (by omega) (by omega))
      have RE := Lib.hid (rot_even (E := F) q2)
      rw [← hmI] at SW RE
      have CC := Lib.hid c
      clear hmI c
      go_wp2_with fail
      refine (SW.out wr EN.out).mono ?_
      rintro e w2 ⟨rfl, hen2, hfr2⟩
      have EN2 := Lib.hid hen2
      have FR2 := Lib.hid (FR.out.trans hfr2)
      clear hen2 hfr2
      go_wp2_with fail
      refine bodyPost_end (results_none rfl _ _ _) rfl ⟨rfl, ?_, FR2.out⟩
      rw [RT.out, ← MI.out, ← CC.out, ← RE.out]
      exact EN2.out
    · have d0 : ((i : Int) != (j : Int)) = true := by simp; omega
      have d1 : (j : Int) < (i : Int) := by omega
      have d2 : decide ((j : Int) < (i : Int)) = true := decide_eq_true d1
      have SW := Lib.hid (fun W (hW : EntB W A N F) => swapRange_any A N cap F (m - i) m j fv W hW hN (by omega) (by omega))
      have RM := Lib.hid (rot_more (E := F) q2 c q3)
      rw [← hmI] at SW RM
      have e6 : (i : Int) - (j : Int) = ((i - j : Nat) : Int) := by omega
      obtain ⟨ij, hij⟩ : ∃ x, x = i - j := ⟨_, rfl⟩
      rw [← hij] at e6 RM
      have IJ := Lib.hid hij
      clear hmI hij
      go_wp2_with fail
      refine (SW.out wr EN.out).mono ?_
      rintro e w2 ⟨rfl, hen2, hfr2⟩
      have EN2 := Lib.hid hen2
      have FR2 := Lib.hid (FR.out.trans hfr2)
      clear hen2 hfr2
      go_wp2_with fail
      refine ⟨⟨ij, j, swpF F mI m j, by go_num, rfl, ⟨by have := IJ.out; omega, by have := IJ.out; omega, q3, q4⟩, EN2.out, ?_, FR2.out⟩, ?_⟩
      · rw [RT.out, ← MI.out]; exact RM.out.symm
      · have := IJ.out
        simp only [intOf]
        omega
end Go.Proofs.Ytkhdielfnphheaa
