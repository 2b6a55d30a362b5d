/- The walk of IndexFinds. -/
import Derived.Test.YtkhdielfnphheaaFns
import Derived.Test.YtkhdielfnphheaaRef3
namespace Go.Proofs.Ytkhdielfnphheaa
open Go.RowKit

set_option maxRecDepth 100000 in
set_option maxHeartbeats 6400000 in
theorem indexfinds_any (S : Sc) (s0 s1 s2 s3 s4 s5 s6 hd mt rm gl pc it : Value) (x y : Int) (w : World) (hD : DataV S rm gl pc w) (hH : Row w hd S.nh 1 S.H) (ok : ScOk S) :
    Calls Try.prog 4 #[.agg #[s0, s1, s2, s3, s4, s5, s6, hd, mt, rm, gl, pc, it], .int .i64 x, .int .i64 y] w (RetPost (.bool true) w) := by
  obtain ⟨w1, hw1⟩ : ∃ w1, w1 = w.alloc (.cells #[s0, s1, s2, s3, s4, s5, s6, hd, mt, rm, gl, pc, it] 31) := ⟨_, rfl⟩
  obtain ⟨A, hA⟩ : ∃ A, A = w.heap.size := ⟨_, rfl⟩
  have B1 : Hid (Below w.heap.size w w1) := Lib.hid (by rw [hw1]; exact below_alloc _ _)
  have X1 : Hid (w1.heap[A]? = some (.cells #[s0, s1, s2, s3, s4, s5, s6, hd, mt, rm, gl, pc, it] 31 (0, 0))) := Lib.hid (by rw [hw1, hA]; exact heap_alloc_new w _)
  have S1 : Hid (w1.heap.size = A + 1) := Lib.hid (by rw [hw1, hA]; simp)
  have NW := Lib.hid (new_any S s0 s1 s2 s3 s4 s5 s6 hd mt rm gl pc it w1 (hD.later B1.out) (hH.later B1.out) ok)
  have WR := Lib.hid (fun (V : World) (hb : Below w.heap.size w V) => rwrong14 S s0 s1 s2 s3 s4 s5 s6 hd mt rm gl pc it V (hD.later hb) (hH.later hb) ok)
  have FI := Lib.hid (fun (X : Nat) (z : Int) (V : World) (hb : Below w.heap.size w V) (hX : w.heap.size ≤ X) (h : IdxF S X V ∨ IdxA S X V) => finds12 S X s0 s1 s2 s3 s4 s5 s6 hd mt rm gl pc it z w V hD hb hX h ok)
  have WI := Lib.hid (fun (X : Nat) (V : World) (h : IdxF S X V ∨ IdxA S X V) => wrong_any S X V h ok)
  have HW := Lib.hid (And.intro hw1 hA)
  clear hw1 hA hD hH ok
  obtain ⟨m, hm⟩ : ∃ m, m = wrongS S := ⟨_, rfl⟩
  simp only [← hm] at WR WI
  clear hm
  obtain ⟨l31, hs31⟩ := Try.struct31
  have HS31 := Lib.hid hs31
  clear hs31
  go_enter Try.func4, Try.ntmps4
  go_upto_region 1 with (fail)
  rw [← HW.out.2, ← HW.out.1]
  go_wp2_with (refine wpList_load_row (o := ⟨some 8, Op.load 31 (.tmp 3), _, _, _, _⟩) rfl 31 (.tmp 3) rfl A rfl 31 _ (0, 0) _ X1.out HS31.out rfl Try.size31 ?_)
  refine NW.out.mono ?_
  intro e w2 hn
  obtain ⟨X, rfl, hX, hb, hI⟩ := idx_of_new hn
  have I2 := Lib.hid hI
  have B2 := Lib.hid (bthen B1.out hb)
  have AX : Hid (A < X) := Lib.hid (by rw [S1.out] at hX; omega)
  have WX : Hid (w.heap.size ≤ X) := Lib.hid (Nat.le_trans B1.out.size hX)
  have X2 : Hid (w2.heap[A]? = some (.cells #[s0, s1, s2, s3, s4, s5, s6, hd, mt, rm, gl, pc, it] 31 (0, 0))) := Lib.hid ((hb.block A (by rw [S1.out]; omega)).trans X1.out)
  have A2 : Hid (A < w2.heap.size) := Lib.hid (Array.getElem?_eq_some_iff.1 X2.out).1
  clear hn hX hb hI NW
  go_upto_region 2 with (fail)
  refine wp_region_held_drew (S := fun w' => w'.heap[A]? = some (.cells #[s0, s1, s2, s3, s4, s5, s6, hd, mt, rm, gl, pc, it] 31 (0, 0))) (by kernel_rfl) X2.out (fun hSw => ?_)
  have BV0 : Hid (Below w.heap.size w w2.drew) := Lib.hid B2.out.drew
  have AV0 : Hid (A < w2.drew.heap.size) := Lib.hid A2.out
  refine wpAnyH_take (i := 0) (v := ?_) rfl (by kernel_rfl) (by kernel_rfl) (by kernel_rfl) (fun _ _ _ h => h) (Or.inl ⟨by rfl, ?_⟩) hSw ?_
  rotate_left
  · (intro wS hSx; (try dsimp only at hSx); go_simp)
    all_goals with_reducible rfl
  (try simp only [Act.put, List.setIfInBounds_toArray, List.set_cons_zero, List.set_cons_succ, List.getElem_toArray, List.getElem_cons_zero])
  refine wpAnyH_take (i := 1) (v := .agg #[s0, s1, s2, s3, s4, s5, s6, hd, mt, rm, gl, pc, it]) rfl (by kernel_rfl) (by kernel_rfl) (by kernel_rfl) (fun _ _ _ h => h) (yields_row (by rfl) 31 (.tmp 3) rfl A rfl 31 _ (0, 0) _ (fun _ h => h) HS31.out rfl Try.size31) hSw ?_
  (try simp only [Act.put, List.setIfInBounds_toArray, List.set_cons_zero, List.set_cons_succ, List.getElem_toArray, List.getElem_cons_succ, List.getElem_cons_zero])
  refine wpAnyH_take (i := 2) (v := ?_) rfl (by kernel_rfl) (by kernel_rfl) (by kernel_rfl) (fun _ _ _ h => h) (Or.inl ⟨by rfl, ?_⟩) hSw ?_
  rotate_left
  · (intro wS hSx; (try dsimp only at hSx); go_simp)
    all_goals with_reducible rfl
  (try simp only [Act.put, List.setIfInBounds_toArray, List.set_cons_zero, List.set_cons_succ, List.getElem_toArray, List.getElem_cons_succ, List.getElem_cons_zero])
  refine wpAnyH_ready (rs := [3]) (by kernel_rfl) (by simp) ?_
  refine AllReadyH.cons rfl (fun KK hKK => ?_) AllReadyH.nil
  go_simp
  refine (FI.out X x w2.drew BV0.out WX.out (.inl (I2.out.later (Below.refl _ _).drew))).mono ?_
  rintro e v1 ⟨rfl, hf, ha⟩
  have b : Below w.heap.size w v1 := BV0.out.trans (hf.below WX.out BV0.out.size)
  have xa := (hf.block A (AV0.out) (by have := AX.out; omega)).trans hSw
  have BV1 := Lib.hid b
  have IV1 := Lib.hid ha
  have AV1 : Hid (A < v1.heap.size) := Lib.hid (Nat.lt_of_lt_of_le AV0.out hf.size)
  clear hf ha b
  refine hKK.out _ _ xa (fun hSw => ?_)
  clear hKK KK
  (try simp only [Act.put, List.setIfInBounds_toArray, List.set_cons_zero, List.set_cons_succ, List.getElem_toArray, List.getElem_cons_succ, List.getElem_cons_zero])
  refine wpAnyH_take (i := 4) (v := ?_) rfl (by kernel_rfl) (by kernel_rfl) (by kernel_rfl) (fun _ _ _ h => h) (Or.inl ⟨by rfl, ?_⟩) hSw ?_
  rotate_left
  · (intro wS hSx; (try dsimp only at hSx); go_simp)
    all_goals with_reducible rfl
  (try simp only [Act.put, List.setIfInBounds_toArray, List.set_cons_zero, List.set_cons_succ, List.getElem_toArray, List.getElem_cons_succ, List.getElem_cons_zero])
  refine wpAnyH_take (i := 5) (v := ?_) rfl (by kernel_rfl) (by kernel_rfl) (by kernel_rfl) (fun _ _ _ h => h) (Or.inl ⟨by rfl, ?_⟩) hSw ?_
  rotate_left
  · (intro wS hSx; (try dsimp only at hSx); go_simp)
    all_goals with_reducible rfl
  (try simp only [Act.put, List.setIfInBounds_toArray, List.set_cons_zero, List.set_cons_succ, List.getElem_toArray, List.getElem_cons_succ, List.getElem_cons_zero])
  refine wpAnyH_take (i := 6) (v := .agg #[s0, s1, s2, s3, s4, s5, s6, hd, mt, rm, gl, pc, it]) rfl (by kernel_rfl) (by kernel_rfl) (by kernel_rfl) (fun _ _ _ h => h) (yields_row (by rfl) 31 (.tmp 3) rfl A rfl 31 _ (0, 0) _ (fun _ h => h) HS31.out rfl Try.size31) hSw ?_
  (try simp only [Act.put, List.setIfInBounds_toArray, List.set_cons_zero, List.set_cons_succ, List.getElem_toArray, List.getElem_cons_succ, List.getElem_cons_zero])
  refine wpAnyH_take (i := 7) (v := ?_) rfl (by kernel_rfl) (by kernel_rfl) (by kernel_rfl) (fun _ _ _ h => h) (Or.inl ⟨by rfl, ?_⟩) hSw ?_
  rotate_left
  · (intro wS hSx; (try dsimp only at hSx); go_simp)
    all_goals with_reducible rfl
  (try simp only [Act.put, List.setIfInBounds_toArray, List.set_cons_zero, List.set_cons_succ, List.getElem_toArray, List.getElem_cons_succ, List.getElem_cons_zero])
  refine wpAnyH_ready (rs := [8]) (by kernel_rfl) (by simp) ?_
  refine AllReadyH.cons rfl (fun KK hKK => ?_) AllReadyH.nil
  go_simp
  refine (FI.out X y v1 BV1.out WX.out (.inr IV1.out)).mono ?_
  rintro e v2 ⟨rfl, hf, ha⟩
  have b : Below w.heap.size w v2 := BV1.out.trans (hf.below WX.out BV1.out.size)
  have xa := (hf.block A (AV1.out) (by have := AX.out; omega)).trans hSw
  have BV2 := Lib.hid b
  have IV2 := Lib.hid ha
  have AV2 : Hid (A < v2.heap.size) := Lib.hid (Nat.lt_of_lt_of_le AV1.out hf.size)
  clear hf ha b
  refine hKK.out _ _ xa (fun hSw => ?_)
  clear hKK KK
  (try simp only [Act.put, List.setIfInBounds_toArray, List.set_cons_zero, List.set_cons_succ, List.getElem_toArray, List.getElem_cons_succ, List.getElem_cons_zero])
  refine wpAnyH_take (i := 9) (v := ?_) rfl (by kernel_rfl) (by kernel_rfl) (by kernel_rfl) (fun _ _ _ h => h) (Or.inl ⟨by rfl, ?_⟩) hSw ?_
  rotate_left
  · (intro wS hSx; (try dsimp only at hSx); go_simp)
    all_goals with_reducible rfl
  (try simp only [Act.put, List.setIfInBounds_toArray, List.set_cons_zero, List.set_cons_succ, List.getElem_toArray, List.getElem_cons_succ, List.getElem_cons_zero])
  refine wpAnyH_take (i := 10) (v := ?_) rfl (by kernel_rfl) (by kernel_rfl) (by kernel_rfl) (fun _ _ _ h => h) (Or.inl ⟨by rfl, ?_⟩) hSw ?_
  rotate_left
  · (intro wS hSx; (try dsimp only at hSx); go_simp)
    all_goals with_reducible rfl
  (try simp only [Act.put, List.setIfInBounds_toArray, List.set_cons_zero, List.set_cons_succ, List.getElem_toArray, List.getElem_cons_succ, List.getElem_cons_zero])
  refine wpAnyH_take (i := 11) (v := ?_) rfl (by kernel_rfl) (by kernel_rfl) (by kernel_rfl) (fun _ _ _ h => h) (Or.inl ⟨by rfl, ?_⟩) hSw ?_
  rotate_left
  · (intro wS hSx; (try dsimp only at hSx); go_simp)
    all_goals with_reducible rfl
  (try simp only [Act.put, List.setIfInBounds_toArray, List.set_cons_zero, List.set_cons_succ, List.getElem_toArray, List.getElem_cons_succ, List.getElem_cons_zero])
  refine wpAnyH_take (i := 13) (v := .agg #[s0, s1, s2, s3, s4, s5, s6, hd, mt, rm, gl, pc, it]) rfl (by kernel_rfl) (by kernel_rfl) (by kernel_rfl) (fun _ _ _ h => h) (yields_row (by rfl) 31 (.tmp 3) rfl A rfl 31 _ (0, 0) _ (fun _ h => h) HS31.out rfl Try.size31) hSw ?_
  (try simp only [Act.put, List.setIfInBounds_toArray, List.set_cons_zero, List.set_cons_succ, List.getElem_toArray, List.getElem_cons_succ, List.getElem_cons_zero])
  refine wpAnyH_ready (rs := [12]) (by kernel_rfl) (by simp) ?_
  refine AllReadyH.cons rfl (fun KK hKK => ?_) AllReadyH.nil
  go_simp
  refine (WI.out X v2 (.inr IV2.out)).mono ?_
  rintro e v3 ⟨rfl, hf, ha⟩
  have b : Below w.heap.size w v3 := BV2.out.trans (hf.below WX.out BV2.out.size)
  have xa := (hf.block A (AV2.out) (by have := AX.out; omega)).trans hSw
  have BV3 := Lib.hid b
  have IV3 := Lib.hid ha
  have AV3 : Hid (A < v3.heap.size) := Lib.hid (Nat.lt_of_lt_of_le AV2.out hf.size)
  clear hf ha b
  refine hKK.out _ _ xa (fun hSw => ?_)
  clear hKK KK
  (try simp only [Act.put, List.setIfInBounds_toArray, List.set_cons_zero, List.set_cons_succ, List.getElem_toArray, List.getElem_cons_succ, List.getElem_cons_zero])
  refine wpAnyH_ready (rs := [14]) (by kernel_rfl) (by simp) ?_
  refine AllReadyH.cons rfl (fun KK hKK => ?_) AllReadyH.nil
  go_simp
  refine (WR.out v3 BV3.out).mono ?_
  rintro e v4 ⟨rfl, hb⟩
  have xa := (hb.block A (AV3.out)).trans hSw
  have BV4 := Lib.hid (bthen BV3.out hb)
  have AV4 : Hid (A < v4.heap.size) := Lib.hid (Nat.lt_of_lt_of_le AV3.out hb.size)
  clear hb
  refine hKK.out _ _ xa (fun hSw => ?_)
  clear hKK KK
  (try simp only [Act.put, List.setIfInBounds_toArray, List.set_cons_zero, List.set_cons_succ, List.getElem_toArray, List.getElem_cons_succ, List.getElem_cons_zero])
  refine wpAnyH_take (i := 15) (v := ?_) rfl (by kernel_rfl) (by kernel_rfl) (by kernel_rfl) (fun _ _ _ h => h) (Or.inl ⟨by rfl, ?_⟩) hSw ?_
  rotate_left
  · (intro wS hSx; (try dsimp only at hSx); go_simp)
    all_goals with_reducible rfl
  (try simp only [Act.put, List.setIfInBounds_toArray, List.set_cons_zero, List.set_cons_succ, List.getElem_toArray, List.getElem_cons_succ, List.getElem_cons_zero])
  refine wpAnyH_take (i := 16) (v := ?_) rfl (by kernel_rfl) (by kernel_rfl) (by kernel_rfl) (fun _ _ _ h => h) (Or.inl ⟨by rfl, ?_⟩) hSw ?_
  rotate_left
  · (intro wS hSx; (try dsimp only at hSx); go_simp)
    all_goals with_reducible rfl
  (try simp only [Act.put, List.setIfInBounds_toArray, List.set_cons_zero, List.set_cons_succ, List.getElem_toArray, List.getElem_cons_succ, List.getElem_cons_zero])
  refine wpAnyH_take (i := 17) (v := ?_) rfl (by kernel_rfl) (by kernel_rfl) (by kernel_rfl) (fun _ _ _ h => h) (Or.inl ⟨by rfl, ?_⟩) hSw ?_
  rotate_left
  · (intro wS hSx; (try dsimp only at hSx); go_simp)
    all_goals with_reducible rfl
  (try simp only [Act.put, List.setIfInBounds_toArray, List.set_cons_zero, List.set_cons_succ, List.getElem_toArray, List.getElem_cons_succ, List.getElem_cons_zero])
  refine wpAnyH_ready (rs := [18]) (by kernel_rfl) (by simp) ?_
  refine AllReadyH.cons rfl (fun KK hKK => ?_) AllReadyH.nil
  go_simp
  refine (lives11 v4).mono ?_
  rintro e v5 ⟨rfl, hb⟩
  have xa := (hb.block A (AV4.out)).trans hSw
  have BV5 := Lib.hid (bthen BV4.out hb)
  have AV5 : Hid (A < v5.heap.size) := Lib.hid (Nat.lt_of_lt_of_le AV4.out hb.size)
  clear hb
  refine hKK.out _ _ xa (fun hSw => ?_)
  clear hKK KK
  (try simp only [Act.put, List.setIfInBounds_toArray, List.set_cons_zero, List.set_cons_succ, List.getElem_toArray, List.getElem_cons_succ, List.getElem_cons_zero])
  refine wpAnyH_take (i := 19) (v := ?_) rfl (by kernel_rfl) (by kernel_rfl) (by kernel_rfl) (fun _ _ _ h => h) (Or.inl ⟨by rfl, ?_⟩) hSw ?_
  rotate_left
  · (intro wS hSx; (try dsimp only at hSx); go_simp)
    all_goals with_reducible rfl
  (try simp only [Act.put, List.setIfInBounds_toArray, List.set_cons_zero, List.set_cons_succ, List.getElem_toArray, List.getElem_cons_succ, List.getElem_cons_zero])
  refine wpAnyH_ready (rs := [20]) (by kernel_rfl) (by simp) ?_
  refine AllReadyH.cons rfl (fun KK hKK => ?_) AllReadyH.nil
  go_simp
  have xa := hSw
  refine hKK.out _ _ xa (fun hSw => ?_)
  clear hKK KK
  (try simp only [Act.put, List.setIfInBounds_toArray, List.set_cons_zero, List.set_cons_succ, List.getElem_toArray, List.getElem_cons_succ, List.getElem_cons_zero])
  refine wpAnyH_done (by kernel_rfl) ?_ _
  clear hSw
  go_wp2_with fail
  go_ret
  exact ⟨rfl, BV5.out⟩
end Go.Proofs.Ytkhdielfnphheaa
