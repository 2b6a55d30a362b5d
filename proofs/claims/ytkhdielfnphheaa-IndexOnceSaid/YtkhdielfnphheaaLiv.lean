/- Contract of lives: the first one of two is found. -/
import Derived.Test.YtkhdielfnphheaaAsk1
import Derived.Test.YtkhdielfnphheaaNew1
namespace Go.Proofs.Ytkhdielfnphheaa
open Go.RowKit

/-- the scene of two ramps of one name -/
def livS : Sc := ⟨0, 2, 0, 0, fun _ _ => .slice none 0 0, fun j t => if t = 0 then 3 else if t = 6 then (j : Int) + 1 else 0, fun _ => ⟨0, 0, 0, fun _ _ => 0⟩, fun _ => ⟨0, 0, 0, 0, fun _ _ => 0⟩⟩
theorem liv_ok : ScOk livS := ⟨by decide, by decide, by decide, by decide, (fun _ _ h => by cases h), (fun _ h => by cases h), (fun _ h => by cases h)⟩
theorem liv_first : fstI (nmR livS) 3 livS.nr = 0 := by decide
theorem liv_wrong : wrongS livS = 9 := by decide
abbrev livL : List Value := [.int .i64 3, .int .i64 0, .int .i64 0, .int .i64 0, .int .i64 0, .int .i64 0, .int .i64 1, .int .u8 0, .int .u8 0, .int .u8 0, .int .u8 0, .int .u8 0, .int .u8 0, .int .u8 0, .int .u8 0, .int .i64 3, .int .i64 0, .int .i64 0, .int .i64 0, .int .i64 0, .int .i64 0, .int .i64 2, .int .u8 0, .int .u8 0, .int .u8 0, .int .u8 0, .int .u8 0, .int .u8 0, .int .u8 0, .int .u8 0]
theorem liv_row {w : World} {g : Nat} (h : BxAt w g livL) : DataV livS (.slice (some ⟨g, 0, none⟩) 2 2) (.slice none 0 0) (.slice none 0 0) w := by
  refine ⟨⟨some ⟨g, 0, none⟩, 2, rfl, (fun h => by cases h), fun _ => ⟨g, 0, rfl, fun j t hj ht => ?_⟩⟩, ⟨fun _ => .slice none 0 0, Row.nil _ _ _, fun j hj => by cases hj⟩, ⟨fun _ => .slice none 0 0, Row.nil _ _ _, fun j hj => by cases hj⟩⟩
  have hj : j < 2 := hj
  refine h.2.2 (0 + j * 15 + t) _ ?_
  have e : j = 0 ∨ j = 1 := by omega
  have et : t = 0 ∨ t = 1 ∨ t = 2 ∨ t = 3 ∨ t = 4 ∨ t = 5 ∨ t = 6 ∨ t = 7 ∨ t = 8 ∨ t = 9 ∨ t = 10 ∨ t = 11 ∨ t = 12 ∨ t = 13 ∨ t = 14 := by omega
  rcases e with rfl | rfl <;> rcases et with rfl | rfl | rfl | rfl | rfl | rfl | rfl | rfl | rfl | rfl | rfl | rfl | rfl | rfl | rfl <;> rfl
set_option maxRecDepth 100000 in
set_option maxHeartbeats 3200000 in
theorem lives11 (w : World) : Calls Try.prog 11 #[] w (RetPost (.bool true) w) := by
  obtain ⟨w1, hw1⟩ : ∃ w1, w1 = w.alloc (.cells livL.toArray 58) := ⟨_, rfl⟩
  have B1 : Hid (Below w.heap.size w w1) := Lib.hid (by rw [hw1]; exact below_alloc _ _)
  have D1 : DataV livS (.slice (some ⟨w.heap.size, 0, none⟩) 2 2) (.slice none 0 0) (.slice none 0 0) w1 := liv_row (by rw [hw1]; exact BxAt.new w livL 58)
  have N1 := Lib.hid (new_any livS (.int .i64 0) (.int .i64 0) (.int .u8 0) (.int .u8 0) (.int .u8 0) (.int .u8 0) (.int .i64 0) (.slice none 0 0) (.slice none 0 0) _ _ _ (.slice none 0 0) w1 D1 (Row.nil _ _ _) liv_ok)
  have HW := Lib.hid hw1
  clear hw1 D1
  go_enter Try.func11, Try.ntmps11
  go_wp2_with fail
  rw [← HW.out]
  refine N1.out.mono ?_
  intro e w2 hnp
  obtain ⟨X, rfl, hX, hb2, D, hI⟩ := idx_of_new hnp
  have B2 := Lib.hid (bthen B1.out hb2)
  have HX : Hid (w.heap.size ≤ X) := Lib.hid (Nat.le_trans B1.out.size hX)
  have CR := Lib.hid (ramp_any livS X D 3 w2 (.inl hI) liv_ok)
  clear hnp hX hb2 hI N1
  go_wp2_with fail
  refine CR.out.mono ?_
  rintro e w3 ⟨hf, ⟨D', hD', ha⟩, he⟩
  have F3 := Lib.hid hf
  have A3 : Hid (IdxA livS X w3) := Lib.hid ⟨D', ha⟩
  rcases he with ⟨h1, _⟩ | ⟨p, _, h2, rfl⟩
  · rw [liv_first] at h1; cases h1
  · obtain rfl : p = 0 := by rw [liv_first] at h2; omega
    clear hf ha hD' h2 CR
    go_upto_region 3 with (fail)
    obtain ⟨w4, hw4⟩ : ∃ w4, w4 = w3.alloc (.cells (rampL livS 0).toArray 58) := ⟨_, rfl⟩
    have B4 : Hid (Below w3.heap.size w3 w4) := Lib.hid (by rw [hw4]; exact below_alloc _ _)
    have z6 : w4.cell? ⟨w3.heap.size, 6, none⟩ = some (.int .i64 1) := by rw [hw4]; exact (BxAt.new w3 (rampL livS 0) 58).2.2 6 _ rfl
    rw [← hw4]
    clear hw4
    have A4 := Lib.hid (A3.out.later B4.out)
    have CW := Lib.hid (wrong_any livS X w4 (.inr A4.out) liv_ok)
    rw [liv_wrong] at CW
    go_wp2_with fail
    refine CW.out.mono ?_
    rintro e w5 ⟨rfl, hf5, ha5⟩
    have F5 := Lib.hid hf5
    have CM := Lib.hid (made_asked livS X w5 ha5)
    clear hf5 ha5 z6 CW
    go_wp2_with fail
    refine CM.out.mono ?_
    rintro e w6 ⟨rfl, hb6⟩
    have B6 := Lib.hid hb6
    clear hb6 CM
    go_wp2_with fail
    go_ret
    have F := ((F3.out.trans (FrmA.of_below B4.out)).trans F5.out).trans (FrmA.of_below B6.out)
    exact ⟨rfl, B2.out.trans (F.below HX.out B2.out.size)⟩
end Go.Proofs.Ytkhdielfnphheaa
