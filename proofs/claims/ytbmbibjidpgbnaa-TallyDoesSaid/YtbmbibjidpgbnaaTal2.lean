/- More contracts of tallies: All, Swap, Try, the reference's methods, the nil tally. -/
import Derived.Test.YtbmbibjidpgbnaaOrd
import Derived.Test.YtbmbibjidpgbnaaSl
namespace Go.Proofs.Ytbmbibjidpgbnaa
open Go.RowKit
theorem Try.info2 : (Try.prog.info? 2).map (fun i => (i.zero, i.size, i.bytes)) = some (some (.int .i64 0), 1, 8) := by kernel_rfl

def valsTo (V : Nat → Int) (k : Nat) : List Value := (List.range k).map fun j => .int .i64 (V j)
theorem valsTo_succ (V : Nat → Int) (k : Nat) : valsTo V (k + 1) = valsTo V k ++ [.int .i64 (V k)] := by simp [valsTo, List.range_succ]
theorem valsTo_get (V : Nat → Int) (k j : Nat) (h : j < k) : (valsTo V k)[j]? = some (.int .i64 (V j)) := by simp [valsTo, h]
def AllRel (V : Nat → Int) (w wr : World) (v : Value) (k : Nat) : Prop := wr.ownsRow w.heap.size 2 1 v k (valsTo V k) ∧ Below w.heap.size w wr

def AllPost (V : Nat → Int) (w : World) (e : Ending) (w' : World) : Prop := ∃ v, e = .returned v ∧ RdV w' v 7 (fun j => .int .i64 (V j)) ∧ Below w.heap.size w w'

set_option maxRecDepth 100000 in
set_option maxHeartbeats 800000 in
theorem all_any (p : Option Addr) (V : Nat → Int) (w : World) (hget : ∀ (k : Nat) (w' : World), k < 7 → Below w.heap.size w w' → Calls Try.prog 23 #[.pointer p, .int .i64 k] w' fun e w2 => e = .returned (.int .i64 (V k)) ∧ w' = w2) :
    Calls Try.prog 40 #[.pointer p] w (AllPost V w) := by
  obtain ⟨i0, hi, hz0, hz1, hz2⟩ := info_parts Try.info2
  have G := Lib.hid hget
  clear hget
  go_enter Try.func40, Try.ntmps40
  go_wp2_with (at_make; refine wpList_make_own _ rfl _ _ 36 rfl w.heap.size 2 i0 (.int .i64 0) 1 Try.underlying36 hi hz0 hz1 _ _ _ 7 rfl rfl (by omega) ?b2 ?b3 (Nat.le_refl _) ?_)
  case b2 => rw [hz2]; omega
  case b3 => unfold maxLen; omega
  intro w0 hown0 hgrow0
  have R0 := Lib.hid (show AllRel V w w0 (.slice (some ⟨w.heap.size, 0, none⟩) 0 7) 0 from ⟨hown0, (Below.refl _ _).grown hgrow0 (Nat.le_refl _) (fun k h => by cases h)⟩)
  clear hown0 hgrow0
  go_wp2_with fail
  go_loopw [3, 6] (fun v i wr => ∃ k : Nat, k ≤ 7 ∧ i = .int .i64 k ∧ AllRel V w wr v k) (fun _ i _ => 7 - (intOf i).toNat)
  case atStart => exact ⟨0, by omega, rfl, R0.out⟩
  case round =>
    obtain ⟨k, hk, rfl, hrel⟩ := hrel
    by_cases hlt : k < 7
    · have R := Lib.hid hrel
      clear hrel R0
      go_wp2_with fail
      refine (G.out k _ hlt R.out.2).mono ?_
      rintro e w' ⟨rfl, rfl⟩
      obtain ⟨hown, hbel⟩ := R.out
      go_wp2_with (at_builtin; go_loud (refine wpList_app (w0 := wr) rfl (.tmp 9) (.tmp 13) 36 rfl w.heap.size 2 i0 (.int .i64 0) 1 8 [.int .i64 (V k)] Try.underlying36 hi hz0 hz1 hz2 rfl rfl (by decide) _ _ _ rfl hown rfl (by simp [Value.oneCell']) ?c1 ?c2 hbel.size ?_))
      case c1 => unfold maxLen; omega
      case c2 => omega
      intro g' cap' w1 hown1 hb1
      have S := Lib.hid (show AllRel V w w1 (.slice (some ⟨g', 0, none⟩) (k + 1) cap') (k + 1) from ⟨by rw [valsTo_succ]; exact hown1, hbel.trans hb1⟩)
      clear hown1 hb1 hown hbel
      go_wp2_with fail
      go_roundw
      case rel => exact ⟨k + 1, by omega, by go_num, S.out⟩
      case measure => simp [intOf]; omega
    · obtain rfl : k = 7 := by omega
      have R := Lib.hid hrel
      clear hrel R0
      go_wp2_with fail
      go_ret
      exact ⟨_, rfl, RdV.of_owns R.out.1 (by omega) (fun j hj => valsTo_get V 7 j hj), R.out.2⟩

theorem get_nil (k : Int) (w : World) : Calls Try.prog 23 #[.pointer none, .int .i64 k] w fun e w' => e = .returned (.int .i64 0) ∧ w = w' := by
  go_enter Try.func23, Try.ntmps23
  go_wp2_with (first | (go_at_call 51; refine (at_nil _ _).mono ?_; rintro e w' ⟨rfl, rfl⟩))
  go_ret
  exact ⟨rfl, rfl⟩

theorem peak_nil (k : Int) (w : World) : Calls Try.prog 37 #[.pointer none, .int .i64 k] w fun e w' => e = .returned (.int .i64 0) ∧ w = w' := by
  go_enter Try.func37, Try.ntmps37
  go_wp2_with (first | (go_at_call 51; refine (at_nil _ _).mono ?_; rintro e w' ⟨rfl, rfl⟩))
  go_ret
  exact ⟨rfl, rfl⟩

theorem add_nil (k n : Int) (w : World) : Calls Try.prog 22 #[.pointer none, .int .i64 k, .int .i64 n] w fun e w' => e = .returned (.int .i64 0) ∧ w = w' := by
  go_enter Try.func22, Try.ntmps22
  go_wp2_with (first | (go_at_call 51; refine (at_nil _ _).mono ?_; rintro e w' ⟨rfl, rfl⟩))
  go_ret
  exact ⟨rfl, rfl⟩

theorem swap_nil (k n : Int) (w : World) : Calls Try.prog 32 #[.pointer none, .int .i64 k, .int .i64 n] w fun e w' => e = .returned (.int .i64 0) ∧ w = w' := by
  go_enter Try.func32, Try.ntmps32
  go_wp2_with (first | (go_at_call 51; refine (at_nil _ _).mono ?_; rintro e w' ⟨rfl, rfl⟩))
  go_ret
  exact ⟨rfl, rfl⟩

theorem try_nil (k m n : Int) (w : World) : Calls Try.prog 34 #[.pointer none, .int .i64 k, .int .i64 m, .int .i64 n] w fun e w' => e = .returned (.bool false) ∧ w = w' := by
  go_enter Try.func34, Try.ntmps34
  go_wp2_with (first | (go_at_call 51; refine (at_nil _ _).mono ?_; rintro e w' ⟨rfl, rfl⟩))
  go_ret
  exact ⟨rfl, rfl⟩

set_option maxRecDepth 100000 in
set_option maxHeartbeats 1600000 in
theorem none_any (k n : Int) (w : World) : Calls Try.prog 8 #[.int .i64 k, .int .i64 n] w fun e w' => e = .returned (.bool true) ∧ Below w.heap.size w w' := by
  go_enter Try.func8, Try.ntmps8
  go_wp2_with fail
  refine (all_any none (fun _ => 0) w (fun k w' _ _ => get_nil k w')).mono ?_
  rintro e w1 ⟨v, rfl, hrd, hb⟩
  obtain ⟨a, cap, rfl, _, hc⟩ := hrd
  obtain ⟨g, off, rfl, hc2⟩ := hc (by omega)
  have B := Lib.hid hb
  have C := Lib.hid hc2
  clear hb hc hc2
  go_wp2_with fail
  go_loop [7] (fun i => ∃ j : Nat, j ≤ 7 ∧ i = .int .i64 j) (fun i => 7 - (intOf i).toNat)
  case atStart => exact ⟨0, by omega, rfl⟩
  case round =>
    obtain ⟨j, hj, rfl⟩ := hrel
    by_cases hlt : j < 7
    · have hcell := C.out j hlt
      go_wp2_with fail
      go_round
      case rel => exact ⟨j + 1, by omega, by go_num⟩
      case measure => simp [intOf]; omega
    · obtain rfl : j = 7 := by omega
      go_wp2_with (first | (go_at_call 22; refine (add_nil _ _ _).mono ?_; rintro e w' ⟨rfl, rfl⟩) | (go_at_call 23; refine (get_nil _ _).mono ?_; rintro e w' ⟨rfl, rfl⟩) | (go_at_call 37; refine (peak_nil _ _).mono ?_; rintro e w' ⟨rfl, rfl⟩) | (go_at_call 32; refine (swap_nil _ _ _).mono ?_; rintro e w' ⟨rfl, rfl⟩) | (go_at_call 34; refine (try_nil _ _ _ _).mono ?_; rintro e w' ⟨rfl, rfl⟩))
      refine (lives43 _).mono ?_
      rintro e w2 ⟨rfl, hb2⟩
      have B2 := Lib.hid hb2
      clear hb2
      go_wp2_with fail
      go_ret
      exact ⟨rfl, B.out.trans (B2.out.mono B.out.size)⟩

end Go.Proofs.Ytbmbibjidpgbnaa
