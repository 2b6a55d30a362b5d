/- Contracts on rasters: pam.May, and the reference's. -/
import Derived.Test.YtkhdielfnphheaaNew0
namespace Go.Proofs.Ytkhdielfnphheaa
open Go.RowKit

def sideB (n : Int) : Bool := decide (1 ≤ n) && decide (n ≤ 64)
def mayR (W H : Int) (n : Nat) : Bool := sideB W && (sideB H && ((n : Int) == W * H))
theorem side_any (n : Int) (w : World) : Calls Try.prog 77 #[.int .i64 n] w fun e w' => e = .returned (.bool (sideB n)) ∧ w = w' := by
  have E : Hid (sideB n = (decide (1 ≤ n) && decide (n ≤ 64))) := Lib.hid rfl
  by_cases h1 : 1 ≤ n
  · by_cases h2 : n ≤ 64
    all_goals
      go_enter Try.func77, Try.ntmps77
      go_wp2
      go_ret
      exact ⟨by rw [E.out]; simp [h1, h2], rfl⟩
  · go_enter Try.func77, Try.ntmps77
    go_wp2
    go_ret
    exact ⟨by rw [E.out]; simp; omega, rfl⟩
theorem side_iff {n : Int} (h : sideB n = true) : 1 ≤ n ∧ n ≤ 64 := by simpa [sideB] using h
theorem prod_bd {W H : Int} (h1 : sideB W = true) (h2 : sideB H = true) : 0 ≤ W * H ∧ W * H ≤ 4096 := by
  obtain ⟨a1, a2⟩ := side_iff h1
  obtain ⟨b1, b2⟩ := side_iff h2
  have := mul_bd (a := W) (x := H) (A := 64) (X := 64) ⟨by omega, by omega⟩ ⟨by omega, by omega⟩
  exact ⟨Int.mul_nonneg (by omega) (by omega), by omega⟩
set_option maxRecDepth 100000 in
theorem pmay_any (W H : Int) (p : Option Addr) (n c : Nat) (w : World) : Calls Try.prog 64 #[.agg #[.int .i64 W, .int .i64 H, .slice p n c]] w (RetPost (.bool (mayR W H n)) w) := by
  have E : Hid (mayR W H n = (sideB W && (sideB H && ((n : Int) == W * H)))) := Lib.hid rfl
  obtain ⟨m, hm⟩ : ∃ m, m = mayR W H n := ⟨_, rfl⟩
  rw [← hm] at E ⊢
  clear hm
  cases h1 : sideB W
  · have e : Hid (m = false) := Lib.hid (by rw [E.out, h1]; rfl)
    go_enter Try.func64, Try.ntmps64
    go_wp2_with (go_at_call 77; refine (side_any _ _).mono ?_; rintro e w' ⟨rfl, rfl⟩)
    go_ret
    exact ⟨by rw [e.out]; rfl, by ((repeat' (first | with_reducible exact Below.refl _ _ | with_reducible assumption | with_reducible refine Below.drew ?_ | with_reducible refine Below.alloc ?_ ?_ _ | with_reducible refine Below.setCell ?_ ?_ _)) <;> (first | omega | (simp; done) | (simp; omega)))⟩
  · cases h2 : sideB H
    · have e : Hid (m = false) := Lib.hid (by rw [E.out, h1, h2]; rfl)
      go_enter Try.func64, Try.ntmps64
      go_wp2_with (go_at_call 77; refine (side_any _ _).mono ?_; rintro e w' ⟨rfl, rfl⟩)
      go_ret
      exact ⟨by rw [e.out]; rfl, by ((repeat' (first | with_reducible exact Below.refl _ _ | with_reducible assumption | with_reducible refine Below.drew ?_ | with_reducible refine Below.alloc ?_ ?_ _ | with_reducible refine Below.setCell ?_ ?_ _)) <;> (first | omega | (simp; done) | (simp; omega)))⟩
    · have e : Hid (m = ((n : Int) == W * H)) := Lib.hid (by rw [E.out, h1, h2]; rfl)
      obtain ⟨p0, p1⟩ := prod_bd h1 h2
      clear E
      go_enter Try.func64, Try.ntmps64
      go_wp2_with (go_at_call 77; refine (side_any _ _).mono ?_; rintro e w' ⟨rfl, rfl⟩)
      go_ret
      exact ⟨by rw [e.out]; rfl, by ((repeat' (first | with_reducible exact Below.refl _ _ | with_reducible assumption | with_reducible refine Below.drew ?_ | with_reducible refine Below.alloc ?_ ?_ _ | with_reducible refine Below.setCell ?_ ?_ _)) <;> (first | omega | (simp; done) | (simp; omega)))⟩
set_option maxRecDepth 100000 in
theorem rpmay_any (W H : Int) (p : Option Addr) (n c : Nat) (w : World) : Calls Try.prog 33 #[.agg #[.int .i64 W, .int .i64 H, .slice p n c]] w (RetPost (.bool (mayR W H n)) w) := by
  have E : Hid (mayR W H n = (sideB W && (sideB H && ((n : Int) == W * H)))) := Lib.hid rfl
  have EW : Hid (sideB W = (decide (1 ≤ W) && decide (W ≤ 64))) := Lib.hid rfl
  have EH : Hid (sideB H = (decide (1 ≤ H) && decide (H ≤ 64))) := Lib.hid rfl
  obtain ⟨m, hm⟩ : ∃ m, m = mayR W H n := ⟨_, rfl⟩
  rw [← hm] at E ⊢
  clear hm
  by_cases a1 : 1 ≤ W
  · by_cases a2 : W ≤ 64
    · by_cases b1 : 1 ≤ H
      · by_cases b2 : H ≤ 64
        · have s1 : sideB W = true := by simp [sideB, a1, a2]
          have s2 : sideB H = true := by simp [sideB, b1, b2]
          have e : Hid (m = ((n : Int) == W * H)) := Lib.hid (by rw [E.out, s1, s2]; rfl)
          obtain ⟨p0, p1⟩ := prod_bd s1 s2
          clear E EW EH s1 s2
          go_enter Try.func33, Try.ntmps33
          go_wp2
          go_ret
          exact ⟨by rw [e.out]; rfl, by ((repeat' (first | with_reducible exact Below.refl _ _ | with_reducible assumption | with_reducible refine Below.drew ?_ | with_reducible refine Below.alloc ?_ ?_ _ | with_reducible refine Below.setCell ?_ ?_ _)) <;> (first | omega | (simp; done) | (simp; omega)))⟩
        · have e : Hid (m = false) := Lib.hid (by rw [E.out, EH.out]; simp [b2])
          go_enter Try.func33, Try.ntmps33
          go_wp2
          go_ret
          exact ⟨by rw [e.out]; first | rfl | (simp; omega), by ((repeat' (first | with_reducible exact Below.refl _ _ | with_reducible assumption | with_reducible refine Below.drew ?_ | with_reducible refine Below.alloc ?_ ?_ _ | with_reducible refine Below.setCell ?_ ?_ _)) <;> (first | omega | (simp; done) | (simp; omega)))⟩
      · have e : Hid (m = false) := Lib.hid (by rw [E.out, EH.out]; simp [b1])
        go_enter Try.func33, Try.ntmps33
        go_wp2
        go_ret
        exact ⟨by rw [e.out]; first | rfl | (simp; omega), by ((repeat' (first | with_reducible exact Below.refl _ _ | with_reducible assumption | with_reducible refine Below.drew ?_ | with_reducible refine Below.alloc ?_ ?_ _ | with_reducible refine Below.setCell ?_ ?_ _)) <;> (first | omega | (simp; done) | (simp; omega)))⟩
    · have e : Hid (m = false) := Lib.hid (by rw [E.out, EW.out]; simp [a2])
      go_enter Try.func33, Try.ntmps33
      go_wp2
      go_ret
      exact ⟨by rw [e.out]; first | rfl | (simp; omega), by ((repeat' (first | with_reducible exact Below.refl _ _ | with_reducible assumption | with_reducible refine Below.drew ?_ | with_reducible refine Below.alloc ?_ ?_ _ | with_reducible refine Below.setCell ?_ ?_ _)) <;> (first | omega | (simp; done) | (simp; omega)))⟩
  · have e : Hid (m = false) := Lib.hid (by rw [E.out, EW.out]; simp [a1])
    go_enter Try.func33, Try.ntmps33
    go_wp2
    go_ret
    exact ⟨by rw [e.out]; first | rfl | (simp; omega), by ((repeat' (first | with_reducible exact Below.refl _ _ | with_reducible assumption | with_reducible refine Below.drew ?_ | with_reducible refine Below.alloc ?_ ?_ _ | with_reducible refine Below.setCell ?_ ?_ _)) <;> (first | omega | (simp; done) | (simp; omega)))⟩
end Go.Proofs.Ytkhdielfnphheaa
