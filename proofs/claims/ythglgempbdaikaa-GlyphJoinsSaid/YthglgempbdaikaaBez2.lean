/- Contracts of package bez: weights of four points, fits. -/
import Derived.Test.YthglgempbdaikaaBez1
namespace Go.Proofs.Ythglgempbdaikaa
open Go.RowKit

theorem wei3_any (k n : Nat) (w : World) (hk : k ≤ n) (hn : n ≤ 32) :
    Calls Try.prog 70 #[.int .i64 3, .int .i64 k, .int .i64 n] w fun e w' => e = .returned (.tuple #[.agg #[.int .i64 (((n : Int) - k) * ((n : Int) - k) * ((n : Int) - k)), .int .i64 (3 * ((n : Int) - k) * ((n : Int) - k) * k), .int .i64 (3 * ((n : Int) - k) * k * k), .int .i64 ((k : Int) * k * k)], .int .i64 ((n : Int) * n * n)]) ∧ Below w.heap.size w w' := by
  obtain ⟨l, hl⟩ : ∃ l : Int, l = (n : Int) - k := ⟨_, rfl⟩
  have hl0 : -32 ≤ l ∧ l ≤ 32 := by omega
  have hk0 : -32 ≤ (k : Int) ∧ (k : Int) ≤ 32 := by omega
  have hn0 : -32 ≤ (n : Int) ∧ (n : Int) ≤ 32 := by omega
  rw [← hl]
  have b1 := mul_bd hl0 hl0
  have c1 := mul_bd b1 hl0
  have b2 := mul_bd (a := 3 * l) (A := 96) (by omega) hl0
  have c2 := mul_bd b2 hk0
  have b3 := mul_bd (a := 3 * l) (A := 96) (by omega) hk0
  have c3 := mul_bd b3 hk0
  have b4 := mul_bd hk0 hk0
  have c4 := mul_bd b4 hk0
  have b5 := mul_bd hn0 hn0
  have c5 := mul_bd b5 hn0
  simp only [Int.reduceMul, Int.reduceNeg] at b1 b2 b3 b4 b5 c1 c2 c3 c4 c5
  obtain ⟨b11, b12⟩ := b1
  obtain ⟨b21, b22⟩ := b2
  obtain ⟨b31, b32⟩ := b3
  obtain ⟨b41, b42⟩ := b4
  obtain ⟨b51, b52⟩ := b5
  obtain ⟨c11, c12⟩ := c1
  obtain ⟨c21, c22⟩ := c2
  obtain ⟨c31, c32⟩ := c3
  obtain ⟨c41, c42⟩ := c4
  obtain ⟨c51, c52⟩ := c5
  obtain ⟨hl1, hl2⟩ := hl0
  have hwr : IntKind.i64.wrap ((n : Int) - k) = l := by rw [hl]; exact IntWalk.i64_in _ (by omega)
  have hll : (n : Int) - k = l := hl.symm
  clear hl hk0 hn0
  go_enter Try.func70, Try.ntmps70
  go_wp2
  refine bodyPost_ret (v := .tuple #[.agg #[.int .i64 (l * l * l), .int .i64 (3 * l * l * k), .int .i64 (3 * l * k * k), .int .i64 ((k : Int) * k * k)], .int .i64 ((n : Int) * n * n)]) ?_ rfl ⟨rfl, ?_⟩
  · simp [results, Try.results70, go_sem]
  · ((repeat' (first | with_reducible exact Below.refl _ _ | with_reducible assumption | with_reducible refine Below.drew ?_ | with_reducible refine Below.alloc ?_ ?_ _ | with_reducible refine Below.setCell ?_ ?_ _)) <;> (first | omega | (simp; done) | (simp; omega)))

/-- n points -/
def PtAt (W : World) (g off n : Nat) (X Y : Nat → Int) : Prop := ∀ j, j < n → W.cell? ⟨g, off + j * 2, none⟩ = some (.int .i64 (X j)) ∧ W.cell? ⟨g, off + j * 2 + 1, none⟩ = some (.int .i64 (Y j))
theorem PtAt.later {W W1 : World} {g off n : Nat} {X Y : Nat → Int} (h : PtAt W g off n X Y) (hb : Below W.heap.size W W1) : PtAt W1 g off n X Y := fun j hj => ⟨cell_later hb (h j hj).1, cell_later hb (h j hj).2⟩
def fitsTo (X Y : Nat → Int) : Nat → Bool
  | 0 => true
  | k + 1 => fitsTo X Y k && fits (X k) (Y k)
theorem fitsTo_lt {X Y : Nat → Int} {n k : Nat} (hk : k < n) (h : fits (X k) (Y k) = false) : fitsTo X Y n = false := by
  induction n with
  | zero => omega
  | succ n ih =>
    by_cases e : k = n
    · subst e; simp [fitsTo, h]
    · simp [fitsTo, ih (by omega)]
theorem fitsTo_at {X Y : Nat → Int} {n k : Nat} (hk : k < n) (h : fitsTo X Y n = true) : fits (X k) (Y k) = true := by
  cases e : fits (X k) (Y k)
  · rw [fitsTo_lt hk e] at h; cases h
  · rfl
def FRel (X Y : Nat → Int) (w : World) (k : Nat) (wr : World) : Prop := fitsTo X Y k = true ∧ Below w.heap.size w wr

set_option maxHeartbeats 1600000 in
theorem bfits_any (g off n cap : Nat) (X Y : Nat → Int) (w : World) (hn : n ≤ 1000) (h : PtAt w g off n X Y) :
    Calls Try.prog 39 #[.slice (some ⟨g, off, none⟩) n cap] w fun e w' => e = .returned (.bool (fitsTo X Y n)) ∧ Below w.heap.size w w' := by
  have H := Lib.hid h
  clear h
  go_enter Try.func39, Try.ntmps39
  go_wp2_with fail
  go_loopw [7] (fun i wr => ∃ k : Nat, k ≤ n ∧ i = .int .i64 k ∧ FRel X Y w k wr) (fun i _ => n - (intOf i).toNat)
  case atStart => exact ⟨0, Nat.zero_le _, rfl, rfl, Below.refl _ _⟩
  case round =>
    obtain ⟨k, hk, rfl, hf, hb⟩ := hrel
    by_cases hlt : k < n
    · obtain ⟨c0, c1⟩ := H.out k hlt
      have d0 := cell_later hb c0
      have d1 := cell_later hb c1
      have F := Lib.hid (And.intro hf hb)
      clear c0 c1 hf hb
      cases hfit : fits (X k) (Y k)
      · go_wp2_with (go_at_call 30; refine (fits_any _ _ _).mono ?_; rintro e w' ⟨rfl, rfl⟩)
        go_ret
        have hz := F.out.2.size
        have hbw := F.out.2
        refine ⟨by rw [fitsTo_lt hlt hfit]; rfl, ?_⟩
        ((repeat' (first | with_reducible exact Below.refl _ _ | with_reducible assumption | with_reducible refine Below.drew ?_ | with_reducible refine Below.alloc ?_ ?_ _ | with_reducible refine Below.setCell ?_ ?_ _)) <;> (first | omega | (simp; done) | (simp; omega)))
      · go_wp2_with (go_at_call 30; refine (fits_any _ _ _).mono ?_; rintro e w' ⟨rfl, rfl⟩)
        have hz := F.out.2.size
        go_roundw
        case rel =>
          refine ⟨k + 1, by omega, by go_num, by simp [fitsTo, hfit, F.out.1], ?_⟩
          have hbw := F.out.2
          ((repeat' (first | with_reducible exact Below.refl _ _ | with_reducible assumption | with_reducible refine Below.drew ?_ | with_reducible refine Below.alloc ?_ ?_ _ | with_reducible refine Below.setCell ?_ ?_ _)) <;> (first | omega | (simp; done) | (simp; omega)))
        case measure => simp [intOf]; omega
    · obtain rfl : k = n := by omega
      have F := Lib.hid (And.intro hf hb)
      clear hf hb
      go_wp2_with fail
      go_ret
      exact ⟨by rw [F.out.1]; rfl, F.out.2⟩
end Go.Proofs.Ythglgempbdaikaa
