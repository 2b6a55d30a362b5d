/- Contracts of the functions of package affine that the laws of layer 10 reach: within, Fits, May, near, Det, Flat, Apply. -/
import Derived.Test.YtbmbibjidpgbnaaRows
import Derived.WalkKit
import Derived.WalkLawsBesides
import Derived.WalkSpells
import Derived.BigQuiet
import Derived.Deep.QuietTactic
import Derived.Outline
import Derived.Lib.Hide
namespace Go.Proofs.Ytbmbibjidpgbnaa
open Go.RowKit

def within (n m : Int) : Bool := decide (-m ≤ n ∧ n ≤ m)

theorem within_any (n m : Int) (w : World) (h0 : 0 ≤ m) (h1 : m ≤ 1000000000) :
    Calls Try.prog 49 #[.int .i64 n, .int .i64 m] w fun e w' => e = .returned (.bool (within n m)) ∧ w = w' := by
  by_cases h2 : -m ≤ n <;> by_cases h3 : n ≤ m
  all_goals
    go_enter Try.func49, Try.ntmps49
    go_wp2
    go_ret
    simp [within, h2, h3]

/-- a point fits -/
def fits (x y : Int) : Bool := within x 8388607 && within y 8388607

set_option maxHeartbeats 400000 in
theorem fits_any (x y : Int) (w : World) :
    Calls Try.prog 16 #[.agg #[.int .i64 x, .int .i64 y]] w fun e w' => e = .returned (.bool (fits x y)) ∧ w' = w.alloc (.cells #[.int .i64 x, .int .i64 y] 25) := by
  cases h1 : within x 8388607
  all_goals
    go_enter Try.func16, Try.ntmps16
    go_wp2_with (go_at_call 49; refine (within_any _ _ _ (by omega) (by omega)).mono ?_; rintro e w' ⟨rfl, rfl⟩)
    go_ret
    simp [fits, h1]

theorem near_any (n : Int) (w : World) (h0 : -9000000000000000000 ≤ n) (h1 : n ≤ 9000000000000000000) :
    Calls Try.prog 47 #[.int .i64 n] w fun e w' => e = .returned (.int .i64 ((n + 128) / 256)) ∧ w = w' := by
  go_enter Try.func47, Try.ntmps47
  go_wp2
  go_ret
  simp


def may (a b c d e f : Int) : Bool := within a 32768 && within b 32768 && within c 32768 && within d 32768 && fits e f

theorem idx4 (a b c d : Int) (w : World) (k : Nat) (hk : k < 4) : (Instr.index 78 (.agg #[.int .i64 a, .int .i64 b, .int .i64 c, .int .i64 d]) (.int .i64 k)).run Try.prog w = .ok (.int .i64 ([a, b, c, d].getD k 0)) w := by
  obtain rfl | rfl | rfl | rfl : k = 0 ∨ k = 1 ∨ k = 2 ∨ k = 3 := by omega
  all_goals kernel_rfl

def mayK (a b c d : Int) (k : Nat) : Prop := ∀ j, j < k → within ([a, b, c, d].getD j 0) 32768 = true
theorem mayK_step {a b c d : Int} {k : Nat} (h : mayK a b c d k) (h1 : within ([a, b, c, d].getD k 0) 32768 = true) : mayK a b c d (k + 1) := fun j hj => by
  by_cases e : j = k
  · rw [e]; exact h1
  · exact h j (by omega)
theorem may_no {a b c d : Int} (e f : Int) {k : Nat} (hk : k < 4) (h1 : within ([a, b, c, d].getD k 0) 32768 = false) : may a b c d e f = false := by
  obtain rfl | rfl | rfl | rfl : k = 0 ∨ k = 1 ∨ k = 2 ∨ k = 3 := by omega
  all_goals simp at h1; simp [may, h1]
theorem may_yes {a b c d : Int} (e f : Int) (h : mayK a b c d 4) : may a b c d e f = fits e f := by
  have h0 := h 0 (by omega)
  have h1 := h 1 (by omega)
  have h2 := h 2 (by omega)
  have h3 := h 3 (by omega)
  simp at h0 h1 h2 h3
  simp [may, h0, h1, h2, h3]

set_option maxHeartbeats 800000 in
theorem may_any (a b c d e f : Int) (w : World) :
    Calls Try.prog 14 #[.agg #[.int .i64 a, .int .i64 b, .int .i64 c, .int .i64 d, .int .i64 e, .int .i64 f]] w fun r w' => r = .returned (.bool (may a b c d e f)) ∧ Below w.heap.size w w' := by
  have i0 : ∀ k : Nat, k < 4 → ∀ w, (Instr.index 78 (.agg #[.int .i64 a, .int .i64 b, .int .i64 c, .int .i64 d]) (.int .i64 k)).run Try.prog w = .ok (.int .i64 ([a, b, c, d].getD k 0)) w := fun k hk w => idx4 a b c d w k hk
  go_enter Try.func14, Try.ntmps14
  go_wp2_with fail
  go_loop [14] (fun i => ∃ k : Nat, k ≤ 4 ∧ i = .int .i64 k ∧ mayK a b c d k) (fun i => 4 - (intOf i).toNat)
  case atStart => exact ⟨0, by omega, rfl, fun j hj => by omega⟩
  case round =>
    obtain ⟨k, hk, rfl, hall⟩ := hrel
    have HA := Lib.hid hall
    clear hall
    by_cases hlt : k < 4
    · obtain ⟨x, hx⟩ : ∃ x, [a, b, c, d].getD k 0 = x := ⟨_, rfl⟩
      have hi := i0 k hlt
      rw [hx] at hi
      have HX := Lib.hid hx
      clear i0 hx
      cases h : within x 32768
      · go_wp2_with (go_at_call 49; refine (within_any _ _ _ (by omega) (by omega)).mono ?_; rintro e w' ⟨rfl, rfl⟩)
        go_ret
        exact ⟨by rw [may_no e f hlt (by rw [HX.out]; exact h)]; rfl, (Below.refl _ _).alloc (Nat.le_refl _) _⟩
      · go_wp2_with (go_at_call 49; refine (within_any _ _ _ (by omega) (by omega)).mono ?_; rintro e w' ⟨rfl, rfl⟩)
        go_round
        case rel => exact ⟨k + 1, by omega, by go_num, mayK_step HA.out (by rw [HX.out]; exact h)⟩
        case measure => simp [intOf]; omega
    · obtain rfl : k = 4 := by omega
      go_wp2_with (go_at_call 16; refine (fits_any _ _ _).mono ?_; rintro e w' ⟨rfl, rfl⟩)
      go_ret
      exact ⟨by rw [may_yes _ _ HA.out]; rfl, ((Below.refl _ _).alloc (Nat.le_refl _) _).alloc (by simp) _⟩


theorem within_bd {n m : Int} (h : within n m = true) : -m ≤ n ∧ n ≤ m := by simpa [within] using h
theorem mul_bd {a x A X : Int} (ha : -A ≤ a ∧ a ≤ A) (hx : -X ≤ x ∧ x ≤ X) : -(A * X) ≤ a * x ∧ a * x ≤ A * X := by
  have hA : 0 ≤ A := by omega
  have hX : 0 ≤ X := by omega
  have h1 : (A + a) * (X - x) ≥ 0 := Int.mul_nonneg (by omega) (by omega)
  have h2 : (A - a) * (X + x) ≥ 0 := Int.mul_nonneg (by omega) (by omega)
  have h3 : (A + a) * (X + x) ≥ 0 := Int.mul_nonneg (by omega) (by omega)
  have h4 : (A - a) * (X - x) ≥ 0 := Int.mul_nonneg (by omega) (by omega)
  simp only [Int.add_mul, Int.sub_mul, Int.mul_add, Int.mul_sub] at h1 h2 h3 h4
  omega

/-- one part of where a point goes -/
def goes (a x c y e : Int) : Int := (a * x + c * y + 128) / 256 + e
def applyX (a b c d e f x y : Int) : Int := if may a b c d e f && fits x y && fits (goes a x c y e) (goes b x d y f) then goes a x c y e else 0
def applyY (a b c d e f x y : Int) : Int := if may a b c d e f && fits x y && fits (goes a x c y e) (goes b x d y f) then goes b x d y f else 0
def applyE (a b c d e f x y : Int) : Int := if !may a b c d e f then 2 else if fits x y && fits (goes a x c y e) (goes b x d y f) then 0 else 4

theorem may_bd {a b c d e f : Int} (h : may a b c d e f = true) : (-32768 ≤ a ∧ a ≤ 32768) ∧ (-32768 ≤ b ∧ b ≤ 32768) ∧ (-32768 ≤ c ∧ c ≤ 32768) ∧ (-32768 ≤ d ∧ d ≤ 32768) ∧ (-8388607 ≤ e ∧ e ≤ 8388607) ∧ (-8388607 ≤ f ∧ f ≤ 8388607) := by
  simpa [may, within, fits, and_assoc] using h
theorem fits_bd {x y : Int} (h : fits x y = true) : (-8388607 ≤ x ∧ x ≤ 8388607) ∧ (-8388607 ≤ y ∧ y ≤ 8388607) := by
  simpa [within, fits, and_assoc] using h

end Go.Proofs.Ytbmbibjidpgbnaa
