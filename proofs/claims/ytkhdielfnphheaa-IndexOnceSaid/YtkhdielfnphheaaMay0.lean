/- Contracts on paints: tint.May, paint, and the reference's. -/
import Derived.Test.YtkhdielfnphheaaNew0
namespace Go.Proofs.Ytkhdielfnphheaa
open Go.RowKit

def mayK (k r : Int) : Bool := k == 1 || (k == 2 || (k == 3 && (decide (1 ≤ r) && decide (r ≤ 8388607))))
def mayP (k px py qx qy r : Int) : Bool := fits px py && (fits qx qy && mayK k r)
abbrev paintL (k c0 c1 c2 c3 d0 d1 d2 d3 px py qx qy r : Int) : Array Value :=
  #[.int .i64 k, .int .u8 c0, .int .u8 c1, .int .u8 c2, .int .u8 c3, .int .u8 d0, .int .u8 d1, .int .u8 d2, .int .u8 d3, .int .i64 px, .int .i64 py, .int .i64 qx, .int .i64 qy, .int .i64 r, .int .i64 0, .int .i64 0, .int .i64 0, .int .i64 0, .int .i64 0, .int .i64 0, .slice none 0 0, .bool false]
/-- how a paint's kind and radius may lie -/
theorem kinds (k r : Int) : (k = 1 ∧ mayK k r = true) ∨ ((k == 1) = false ∧ k = 2 ∧ mayK k r = true) ∨ ((k == 1) = false ∧ (k == 2) = false ∧ k = 3 ∧ ((r < 1 ∧ mayK k r = false) ∨ (1 ≤ r ∧ r ≤ 8388607 ∧ mayK k r = true) ∨ (1 ≤ r ∧ 8388607 < r ∧ mayK k r = false))) ∨ ((k == 1) = false ∧ (k == 2) = false ∧ (k == 3) = false ∧ mayK k r = false) := by
  unfold mayK
  by_cases h1 : k = 1
  · subst h1; exact .inl ⟨rfl, rfl⟩
  · by_cases h2 : k = 2
    · subst h2; exact .inr (.inl ⟨rfl, rfl, rfl⟩)
    · by_cases h3 : k = 3
      · subst h3
        refine .inr (.inr (.inl ⟨rfl, rfl, rfl, ?_⟩))
        by_cases h4 : 1 ≤ r
        · by_cases h5 : r ≤ 8388607
          · exact .inr (.inl ⟨h4, h5, by simp [h4, h5]⟩)
          · exact .inr (.inr ⟨h4, by omega, by simp [h4, h5]⟩)
        · exact .inl ⟨by omega, by simp [h4]⟩
      · exact .inr (.inr (.inr ⟨by simpa using h1, by simpa using h2, by simpa using h3, by simp [h1, h2, h3]⟩))
set_option maxRecDepth 100000 in
set_option maxHeartbeats 3200000 in
theorem tmay_any (k c0 c1 c2 c3 d0 d1 d2 d3 px py qx qy r : Int) (w : World) :
    Calls Try.prog 62 #[.agg (paintL k c0 c1 c2 c3 d0 d1 d2 d3 px py qx qy r)] w (RetPost (.bool (mayP k px py qx qy r)) w) := by
  have E : Hid (mayP k px py qx qy r = (fits px py && (fits qx qy && mayK k r))) := Lib.hid rfl
  obtain ⟨m, hm⟩ : ∃ m, m = mayP k px py qx qy r := ⟨_, rfl⟩
  rw [← hm] at E ⊢
  clear hm
  cases h1 : fits px py
  · have e : Hid (m = false) := Lib.hid (by rw [E.out, h1]; rfl)
    go_enter Try.func62, Try.ntmps62
    go_wp2_with (go_at_call 75; refine (fits_any _ _ _).mono ?_; rintro e w' ⟨rfl, rfl⟩)
    go_ret
    exact ⟨by rw [e.out]; rfl, by ((repeat' (first | with_reducible exact Below.refl _ _ | with_reducible assumption | with_reducible refine Below.drew ?_ | with_reducible refine Below.alloc ?_ ?_ _ | with_reducible refine Below.setCell ?_ ?_ _)) <;> (first | omega | (simp; done) | (simp; omega)))⟩
  · cases h2 : fits qx qy
    · have e : Hid (m = false) := Lib.hid (by rw [E.out, h1, h2]; rfl)
      go_enter Try.func62, Try.ntmps62
      go_wp2_with (go_at_call 75; refine (fits_any _ _ _).mono ?_; rintro e w' ⟨rfl, rfl⟩)
      go_ret
      exact ⟨by rw [e.out]; rfl, by ((repeat' (first | with_reducible exact Below.refl _ _ | with_reducible assumption | with_reducible refine Below.drew ?_ | with_reducible refine Below.alloc ?_ ?_ _ | with_reducible refine Below.setCell ?_ ?_ _)) <;> (first | omega | (simp; done) | (simp; omega)))⟩
    · have E2 : Hid (m = mayK k r) := Lib.hid (by rw [E.out, h1, h2]; rfl)
      rcases kinds k r with ⟨rfl, h5⟩ | ⟨h3, rfl, h5⟩ | ⟨h3, h4, rfl, ⟨h6, h5⟩ | ⟨h6, h7, h5⟩ | ⟨h6, h7, h5⟩⟩ | ⟨h3, h4, h6, h5⟩
      all_goals
        rw [h5] at E2
        clear h5 E
        go_enter Try.func62, Try.ntmps62
        go_wp2_with (go_at_call 75; refine (fits_any _ _ _).mono ?_; rintro e w' ⟨rfl, rfl⟩)
        go_ret
        exact ⟨by rw [E2.out]; first | rfl | (simp; omega), by ((repeat' (first | with_reducible exact Below.refl _ _ | with_reducible assumption | with_reducible refine Below.drew ?_ | with_reducible refine Below.alloc ?_ ?_ _ | with_reducible refine Below.setCell ?_ ?_ _)) <;> (first | omega | (simp; done) | (simp; omega)))⟩
set_option maxRecDepth 100000 in
set_option maxHeartbeats 3200000 in
theorem rmay_any (k c0 c1 c2 c3 d0 d1 d2 d3 px py qx qy r : Int) (w : World) :
    Calls Try.prog 31 #[.agg (paintL k c0 c1 c2 c3 d0 d1 d2 d3 px py qx qy r)] w (RetPost (.bool (mayP k px py qx qy r)) w) := by
  have E : Hid (mayP k px py qx qy r = (fits px py && (fits qx qy && mayK k r))) := Lib.hid rfl
  obtain ⟨m, hm⟩ : ∃ m, m = mayP k px py qx qy r := ⟨_, rfl⟩
  rw [← hm] at E ⊢
  clear hm
  cases h1 : fits px py
  · have e : Hid (m = false) := Lib.hid (by rw [E.out, h1]; rfl)
    go_enter Try.func31, Try.ntmps31
    go_wp2_with (go_at_call 38; refine (rfits_any _ _ _).mono ?_; rintro e w' ⟨rfl, rfl⟩)
    go_ret
    exact ⟨by rw [e.out]; rfl, by ((repeat' (first | with_reducible exact Below.refl _ _ | with_reducible assumption | with_reducible refine Below.drew ?_ | with_reducible refine Below.alloc ?_ ?_ _ | with_reducible refine Below.setCell ?_ ?_ _)) <;> (first | omega | (simp; done) | (simp; omega)))⟩
  · cases h2 : fits qx qy
    · have e : Hid (m = false) := Lib.hid (by rw [E.out, h1, h2]; rfl)
      go_enter Try.func31, Try.ntmps31
      go_wp2_with (go_at_call 38; refine (rfits_any _ _ _).mono ?_; rintro e w' ⟨rfl, rfl⟩)
      go_ret
      exact ⟨by rw [e.out]; rfl, by ((repeat' (first | with_reducible exact Below.refl _ _ | with_reducible assumption | with_reducible refine Below.drew ?_ | with_reducible refine Below.alloc ?_ ?_ _ | with_reducible refine Below.setCell ?_ ?_ _)) <;> (first | omega | (simp; done) | (simp; omega)))⟩
    · have E2 : Hid (m = mayK k r) := Lib.hid (by rw [E.out, h1, h2]; rfl)
      rcases kinds k r with ⟨rfl, h5⟩ | ⟨h3, rfl, h5⟩ | ⟨h3, h4, rfl, ⟨h6, h5⟩ | ⟨h6, h7, h5⟩ | ⟨h6, h7, h5⟩⟩ | ⟨h3, h4, h6, h5⟩
      all_goals
        rw [h5] at E2
        clear h5 E
        go_enter Try.func31, Try.ntmps31
        go_wp2_with (go_at_call 38; refine (rfits_any _ _ _).mono ?_; rintro e w' ⟨rfl, rfl⟩)
        go_ret
        exact ⟨by rw [E2.out]; first | rfl | (simp; omega), by ((repeat' (first | with_reducible exact Below.refl _ _ | with_reducible assumption | with_reducible refine Below.drew ?_ | with_reducible refine Below.alloc ?_ ?_ _ | with_reducible refine Below.setCell ?_ ?_ _)) <;> (first | omega | (simp; done) | (simp; omega)))⟩
def isStruct (d : Option TypeDesc) : Bool := match d with | some (.struct _) => true | _ => false
theorem struct_of {d : Option TypeDesc} (h : isStruct d = true) : ∃ l, d = some (.struct l) := by
  unfold isStruct at h
  split at h
  · exact ⟨_, rfl⟩
  · cases h
theorem Try.struct40 : ∃ l, Try.prog.underlying 40 = some (.struct l) := struct_of (by kernel_rfl)
theorem below_setRow {B : Nat} {w w1 : World} (h : Below B w w1) {g : Nat} (hg : B ≤ g) (cs : Array Value) : Below B w (w1.setRow g cs) :=
  ⟨h.os, h.tape, h.output, by simpa using h.size, fun k hk => (setRow_other w1 g k cs (by omega)).trans (h.block k hk)⟩
theorem BxAt.of_heap {w : World} {g : Nat} {cs : List Value} {e : TypeId} (h : w.heap[g]? = some (.cells cs.toArray e (0, 0))) : BxAt w g cs :=
  ⟨(Array.getElem?_eq_some_iff.1 h).1, fun k => frozen_of_row w g k _ e h, fun k u hu => by rw [cell_of_row w g k _ e (0, 0) h]; simpa using hu⟩
theorem Try.size40 : (Try.prog.info? 40).map (·.size) = some 22 := by kernel_rfl
theorem Try.size58 : (Try.prog.info? 58).map (·.size) = some 15 := by kernel_rfl
theorem Try.zero40 : (Try.prog.info? 40).map (fun i => i.zero) = some (some (.agg (paintL 0 0 0 0 0 0 0 0 0 0 0 0 0 0))) := by kernel_rfl
set_option maxRecDepth 100000 in
set_option maxHeartbeats 3200000 in
theorem paint_any (i k px py qx qy r c0 c1 c2 c3 d0 d1 d2 d3 : Int) (w : World) :
    Calls Try.prog 28 #[.agg #[.int .i64 i, .int .i64 k, .int .i64 px, .int .i64 py, .int .i64 qx, .int .i64 qy, .int .i64 r, .int .u8 c0, .int .u8 c1, .int .u8 c2, .int .u8 c3, .int .u8 d0, .int .u8 d1, .int .u8 d2, .int .u8 d3]] w (RetPost (.agg (paintL k c0 c1 c2 c3 d0 d1 d2 d3 px py qx qy r)) w) := by
  obtain ⟨A, hA⟩ : ∃ A, A = w.heap.size := ⟨_, rfl⟩
  obtain ⟨w2, hw2⟩ : ∃ w2, w2 = (w.alloc (.cells #[.int .i64 i, .int .i64 k, .int .i64 px, .int .i64 py, .int .i64 qx, .int .i64 qy, .int .i64 r, .int .u8 c0, .int .u8 c1, .int .u8 c2, .int .u8 c3, .int .u8 d0, .int .u8 d1, .int .u8 d2, .int .u8 d3] 58)).alloc (.cells (paintL 0 0 0 0 0 0 0 0 0 0 0 0 0 0) 40) := ⟨_, rfl⟩
  have hg : Hid (w2.heap[A + 1]? = some (.cells (paintL 0 0 0 0 0 0 0 0 0 0 0 0 0 0) 40 (0, 0))) := Lib.hid (by rw [hw2, hA]; exact heap_alloc2_new _ _ _)
  have X1 : Hid (BxAt w2 A [.int .i64 i, .int .i64 k, .int .i64 px, .int .i64 py, .int .i64 qx, .int .i64 qy, .int .i64 r, .int .u8 c0, .int .u8 c1, .int .u8 c2, .int .u8 c3, .int .u8 d0, .int .u8 d1, .int .u8 d2, .int .u8 d3]) := Lib.hid (by rw [hw2, hA]; exact (BxAt.new w _ _).later (below_alloc _ _))
  have B2 : Hid (Below A w w2) := Lib.hid (by rw [hw2, hA]; exact bel2 _ _ _)
  have HW := Lib.hid (And.intro hw2 hA)
  clear hw2 hA
  go_enter Try.func28, Try.ntmps28
  go_upto_region 1 with (fail)
  rw [← HW.out.2, ← HW.out.1]
  have x1 := X1.out.2.2 1 _ rfl
  have x2 := X1.out.2.2 2 _ rfl
  have x3 := X1.out.2.2 3 _ rfl
  have x4 := X1.out.2.2 4 _ rfl
  have x5 := X1.out.2.2 5 _ rfl
  have x6 := X1.out.2.2 6 _ rfl
  have x7 := X1.out.2.2 7 _ rfl
  have x8 := X1.out.2.2 8 _ rfl
  have x9 := X1.out.2.2 9 _ rfl
  have x10 := X1.out.2.2 10 _ rfl
  have x11 := X1.out.2.2 11 _ rfl
  have x12 := X1.out.2.2 12 _ rfl
  have x13 := X1.out.2.2 13 _ rfl
  have x14 := X1.out.2.2 14 _ rfl
  go_wp2_with (refine wpList_store_row (o := ⟨none, Op.store 40 (.tmp 2) (.tmp 15), _, _, _, _⟩) (w := w2) rfl 40 (.tmp 2) (.tmp 15) rfl (A + 1) (paintL k c0 c1 c2 c3 d0 d1 d2 d3 px py qx qy r) rfl rfl 40 (paintL 0 0 0 0 0 0 0 0 0 0 0 0 0 0) hg.out Try.size40 rfl (by simp [Value.oneCell']) ?_)
  obtain ⟨l, hs⟩ := Try.struct40
  refine bodyPost_ret (v := .agg (paintL k c0 c1 c2 c3 d0 d1 d2 d3 px py qx qy r)) ?_ rfl ⟨rfl, ?_⟩
  · exact results_cell_row (g := A + 1) (t := 40) (fr := (0, 0)) rfl _ _ _ _ rfl (setRow_heap _ _ _ _ _ _ hg.out) hs rfl Try.size40
  · rw [← HW.out.2]
    exact below_setRow B2.out (by omega) _
end Go.Proofs.Ytkhdielfnphheaa
