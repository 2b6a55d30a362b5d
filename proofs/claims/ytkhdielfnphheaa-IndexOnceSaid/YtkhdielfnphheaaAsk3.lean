/- Contract of Index.Paint. -/
import Derived.Test.YtkhdielfnphheaaAsk1
namespace Go.Proofs.Ytkhdielfnphheaa
open Go.RowKit

abbrev paintR (S : Sc) (p : Nat) : Array Value := paintL (S.R p 1) (S.R p 7) (S.R p 8) (S.R p 9) (S.R p 10) (S.R p 11) (S.R p 12) (S.R p 13) (S.R p 14) (S.R p 2) (S.R p 3) (S.R p 4) (S.R p 5) (S.R p 6)
abbrev paintC (k0 k1 k2 k3 : Int) : Array Value := paintL 1 k0 k1 k2 k3 0 0 0 0 0 0 0 0 0
abbrev paintZ : Array Value := paintL 0 0 0 0 0 0 0 0 0 0 0 0 0 0
/-- which paint a style has, and the error -/
def PaintIs (S : Sc) (pl : Bool) (k0 k1 k2 k3 x : Int) (P : Array Value) (er : Int) : Prop :=
  (pl = true ∧ P = paintC k0 k1 k2 k3 ∧ er = 0) ∨ (pl = false ∧ fstI (nmR S) x S.nr = -1 ∧ P = paintZ ∧ er = 8) ∨ (pl = false ∧ ∃ p : Nat, p < S.nr ∧ fstI (nmR S) x S.nr = p ∧ P = paintR S p ∧ er = 0)
def PaintPost (S : Sc) (X : Nat) (pl : Bool) (k0 k1 k2 k3 x : Int) (w : World) (e : Ending) (w' : World) : Prop := FrmA w w' X ∧ IdxA S X w' ∧ ∃ P er, PaintIs S pl k0 k1 k2 k3 x P er ∧ e = .returned (.tuple #[.agg P, .int .i64 er])
theorem paintL_one (k c0 c1 c2 c3 d0 d1 d2 d3 px py qx qy r : Int) : (paintL k c0 c1 c2 c3 d0 d1 d2 d3 px py qx qy r).all (·.oneCell') = true := by simp [Value.oneCell']
theorem paint_res (wf : World) (R : Nat) (er k c0 c1 c2 c3 d0 d1 d2 d3 px py qx qy r : Int) (tmps : Array Value) (h4 : tmps[4]? = some (.pointer (some ⟨R, 0, none⟩))) (h5 : tmps[5]? = some (.int .i64 er)) (hg : wf.heap[R]? = some (.cells (paintL k c0 c1 c2 c3 d0 d1 d2 d3 px py qx qy r) 40 (0, 0))) :
    (results Try.f8 tmps).run Try.prog wf = .ok (.tuple #[.agg (paintL k c0 c1 c2 c3 d0 d1 d2 d3 px py qx qy r), .int .i64 er]) wf := by
  obtain ⟨l, hs⟩ := Try.struct40
  have hl := run_loadVar_row (P := Try.prog) wf R 40 40 _ (0, 0) _ hg hs rfl Try.size40
  simp [results, Try.results8, asAddr, h4, h5, hl]
set_option maxRecDepth 100000 in
set_option maxHeartbeats 6400000 in
theorem paintx_any (S : Sc) (X : Nat) (pl : Bool) (k0 k1 k2 k3 x op : Int) (w : World) (h : IdxF S X w ∨ IdxA S X w) (ok : ScOk S) :
    Calls Try.prog 8 #[.pointer (some ⟨X, 0, none⟩), .agg #[.bool pl, .int .u8 k0, .int .u8 k1, .int .u8 k2, .int .u8 k3, .int .i64 x, .int .i64 op]] w (PaintPost S X pl k0 k1 k2 k3 x w) := by
  obtain ⟨D, h⟩ : ∃ D, IdxFD S X D w ∨ IdxAD S X D w := by
    rcases h with ⟨D, h⟩ | ⟨D, h⟩
    · exact ⟨D, .inl h⟩
    · exact ⟨D, .inr h⟩
  have hX : X < w.heap.size := by rcases h with h | h <;> exact h.lt
  have hDl : ∀ g, D g → g < w.heap.size := by
    intro g hg
    rcases h with h | h
    · exact (h.1 g hg).2
    · exact (h.1 g hg).2
  obtain ⟨w1, hw1⟩ : ∃ w1, w1 = (w.alloc (.cells #[.bool pl, .int .u8 k0, .int .u8 k1, .int .u8 k2, .int .u8 k3, .int .i64 x, .int .i64 op] 33)).alloc (.cells paintZ 40) := ⟨_, rfl⟩
  obtain ⟨A, hA⟩ : ∃ A, A = w.heap.size := ⟨_, rfl⟩
  have B1 : Hid (Below w.heap.size w w1) := Lib.hid (by rw [hw1]; exact bel2 _ _ _)
  have G1 : Hid (w1.heap[A + 1]? = some (.cells paintZ 40 (0, 0))) := Lib.hid (by rw [hw1, hA]; exact heap_alloc2_new _ _ _)
  have Y1 : Hid (BxAt w1 A [.bool pl, .int .u8 k0, .int .u8 k1, .int .u8 k2, .int .u8 k3, .int .i64 x, .int .i64 op]) := Lib.hid (by rw [hw1, hA]; exact (BxAt.new w _ _).later (below_alloc _ _))
  have S1 : Hid (w1.heap.size = A + 1 + 1) := Lib.hid (by rw [hw1, hA]; simp)
  have HI : IdxFD S X D w1 ∨ IdxAD S X D w1 := by
    rcases h with h | h
    · exact .inl (h.later B1.out)
    · exact .inr (h.later B1.out)
  have C := Lib.hid (ask_any S X D w1 HI ok)
  have CR := Lib.hid (fun x => ramp_any S X D x w1 HI ok)
  have XA : Hid (X < A) := Lib.hid (by rw [hA]; exact hX)
  have DA : Hid (∀ g, D g → g < A) := Lib.hid (by rw [hA]; exact hDl)
  have HW := Lib.hid (And.intro hw1 hA)
  have nA : Hid (∀ D' : Nat → Prop, (∀ g, D' g → D g ∨ w1.heap.size ≤ g) → ¬ D' (A + 1)) := Lib.hid (fun D' hD' hh => by
    rcases hD' (A + 1) hh with h1 | h1
    · have := DA.out (A + 1) h1; omega
    · rw [S1.out] at h1; omega)
  clear h hX hDl hw1 hA ok HI
  have y0 := Y1.out.2.2 0 _ rfl
  have y5 := Y1.out.2.2 5 _ rfl
  go_enter Try.func8, Try.ntmps8
  go_upto_region 1 with (fail)
  rw [← HW.out.2, ← HW.out.1]
  cases pl
  · go_wp2_with fail
    refine (CR.out x).mono ?_
    rintro e w2 ⟨hf, ⟨D', hD', ha⟩, he⟩
    have F2 := Lib.hid hf
    have I2 := Lib.hid ha
    have N2 := Lib.hid (nA.out D' hD')
    have G2 : Hid (w2.heap[A + 1]? = some (.cells paintZ 40 (0, 0))) := Lib.hid ((hf.block (A + 1) (by rw [S1.out]; omega) (by have := XA.out; omega)).trans G1.out)
    have S2 : Hid (A + 1 < w2.heap.size) := Lib.hid (Nat.lt_of_lt_of_le (by rw [S1.out]; omega) hf.size)
    clear hf ha hD' y0 y5
    rcases he with ⟨h1, rfl⟩ | ⟨p, h1, h2, rfl⟩
    · have H1 := Lib.hid h1
      clear h1
      go_upto_region 7 with (fail)
      obtain ⟨w3, hw3⟩ : ∃ w3, w3 = w2.alloc (.cells rampZ.toArray 58) := ⟨_, rfl⟩
      have G3 : Hid (w3.heap[A + 1]? = some (.cells paintZ 40 (0, 0))) := Lib.hid (by rw [hw3]; exact (heap_alloc_old w2 _ S2.out).trans G2.out)
      have B3 : Hid (Below w2.heap.size w2 w3) := Lib.hid (by rw [hw3]; exact below_alloc _ _)
      rw [← hw3]
      clear hw3
      go_wp2_with (refine wpList_store_row (o := ⟨none, Op.store 40 (.tmp 4) (.tmp 27), _, _, _, _⟩) (w := w3) rfl 40 (.tmp 4) (.tmp 27) rfl (A + 1) paintZ rfl rfl 40 paintZ G3.out Try.size40 rfl (paintL_one _ _ _ _ _ _ _ _ _ _ _ _ _ _) ?_)
      have GF := Lib.hid (setRow_heap w3 (A + 1) _ paintZ 40 (0, 0) G3.out)
      have FA : Hid (FrmA w2 (w3.setRow (A + 1) paintZ) (A + 1)) := Lib.hid ((FrmA.of_below B3.out).row _)
      obtain ⟨wf, hwf⟩ : ∃ wf, wf = w3.setRow (A + 1) paintZ := ⟨_, rfl⟩
      rw [← hwf] at GF FA ⊢
      clear hwf
      exact bodyPost_ret (v := .tuple #[.agg paintZ, .int .i64 8]) (paint_res _ _ _ _ _ _ _ _ _ _ _ _ _ _ _ _ _ _ rfl rfl GF.out) rfl ⟨((FrmA.of_below B1.out).trans F2.out).next FA.out (by rw [← HW.out.2]; omega), ⟨D', I2.out.frm FA.out N2.out (by have := XA.out; omega)⟩, _, _, .inr (.inl ⟨rfl, H1.out, rfl, rfl⟩), rfl⟩
    · have H1 := Lib.hid h2
      clear h2
      go_upto_region 7 with (fail)
      obtain ⟨w3, hw3⟩ : ∃ w3, w3 = w2.alloc (.cells (rampL S p).toArray 58) := ⟨_, rfl⟩
      have G3 : Hid (w3.heap[A + 1]? = some (.cells paintZ 40 (0, 0))) := Lib.hid (by rw [hw3]; exact (heap_alloc_old w2 _ S2.out).trans G2.out)
      have B3 : Hid (Below w2.heap.size w2 w3) := Lib.hid (by rw [hw3]; exact below_alloc _ _)
      have Z3 : Hid (BxAt w3 w2.heap.size (rampL S p)) := Lib.hid (by rw [hw3]; exact BxAt.new w2 _ _)
      rw [← hw3]
      clear hw3
      have z0 := Z3.out.2.2 0 _ rfl
      have z1 := Z3.out.2.2 1 _ rfl
      have z2 := Z3.out.2.2 2 _ rfl
      have z3 := Z3.out.2.2 3 _ rfl
      have z4 := Z3.out.2.2 4 _ rfl
      have z5 := Z3.out.2.2 5 _ rfl
      have z6 := Z3.out.2.2 6 _ rfl
      have z7 := Z3.out.2.2 7 _ rfl
      have z8 := Z3.out.2.2 8 _ rfl
      have z9 := Z3.out.2.2 9 _ rfl
      have z10 := Z3.out.2.2 10 _ rfl
      have z11 := Z3.out.2.2 11 _ rfl
      have z12 := Z3.out.2.2 12 _ rfl
      have z13 := Z3.out.2.2 13 _ rfl
      have z14 := Z3.out.2.2 14 _ rfl
      go_wp2_with fail
      refine (paint_any _ _ _ _ _ _ _ _ _ _ _ _ _ _ _ _).mono ?_
      rintro e w4 ⟨rfl, hb4⟩
      have G4 : Hid (w4.heap[A + 1]? = some (.cells paintZ 40 (0, 0))) := Lib.hid ((hb4.block (A + 1) (Nat.lt_of_lt_of_le S2.out B3.out.size)).trans G3.out)
      have B4 := Lib.hid (bthen B3.out hb4)
      clear hb4 z0 z1 z2 z3 z4 z5 z6 z7 z8 z9 z10 z11 z12 z13 z14
      go_wp2_with (refine wpList_store_row (o := ⟨none, Op.store 40 (.tmp 4) (.tmp 29), _, _, _, _⟩) (w := w4) rfl 40 (.tmp 4) (.tmp 29) rfl (A + 1) (paintR S p) rfl rfl 40 paintZ G4.out Try.size40 rfl (paintL_one _ _ _ _ _ _ _ _ _ _ _ _ _ _) ?_)
      have GF := Lib.hid (setRow_heap w4 (A + 1) _ (paintR S p) 40 (0, 0) G4.out)
      have FA : Hid (FrmA w2 (w4.setRow (A + 1) (paintR S p)) (A + 1)) := Lib.hid ((FrmA.of_below B4.out).row _)
      obtain ⟨wf, hwf⟩ : ∃ wf, wf = w4.setRow (A + 1) (paintR S p) := ⟨_, rfl⟩
      rw [← hwf] at GF FA ⊢
      clear hwf
      exact bodyPost_ret (v := .tuple #[.agg (paintR S p), .int .i64 0]) (paint_res _ _ _ _ _ _ _ _ _ _ _ _ _ _ _ _ _ _ rfl rfl GF.out) rfl ⟨((FrmA.of_below B1.out).trans F2.out).next FA.out (by rw [← HW.out.2]; omega), ⟨D', I2.out.frm FA.out N2.out (by have := XA.out; omega)⟩, _, _, .inr (.inr ⟨rfl, p, h1, H1.out, rfl, rfl⟩), rfl⟩
  · go_wp2_with fail
    refine C.out.mono ?_
    rintro e w2 ⟨rfl, hf, D', hD', ha⟩
    have F2 := Lib.hid hf
    have I2 := Lib.hid ha
    have N2 := Lib.hid (nA.out D' hD')
    have G2 : Hid (w2.heap[A + 1]? = some (.cells paintZ 40 (0, 0))) := Lib.hid ((hf.block (A + 1) (by rw [S1.out]; omega) (by have := XA.out; omega)).trans G1.out)
    have Y2 := Lib.hid (Y1.out.frm hf (by have := XA.out; omega))
    have y1 := Y2.out.2.2 1 _ rfl
    have y2 := Y2.out.2.2 2 _ rfl
    have y3 := Y2.out.2.2 3 _ rfl
    have y4 := Y2.out.2.2 4 _ rfl
    clear hf ha hD' y0 y5
    go_wp2_with (refine wpList_store_row (o := ⟨none, Op.store 40 (.tmp 4) (.tmp 17), _, _, _, _⟩) (w := w2) rfl 40 (.tmp 4) (.tmp 17) rfl (A + 1) (paintC k0 k1 k2 k3) rfl rfl 40 paintZ G2.out Try.size40 rfl (paintL_one _ _ _ _ _ _ _ _ _ _ _ _ _ _) ?_)
    have GF := Lib.hid (setRow_heap w2 (A + 1) _ (paintC k0 k1 k2 k3) 40 (0, 0) G2.out)
    have FA : Hid (FrmA w2 (w2.setRow (A + 1) (paintC k0 k1 k2 k3)) (A + 1)) := Lib.hid ((FrmA.refl w2 (A + 1)).row _)
    obtain ⟨wf, hwf⟩ : ∃ wf, wf = w2.setRow (A + 1) (paintC k0 k1 k2 k3) := ⟨_, rfl⟩
    rw [← hwf] at GF FA ⊢
    clear hwf
    exact bodyPost_ret (v := .tuple #[.agg (paintC k0 k1 k2 k3), .int .i64 0]) (paint_res _ _ _ _ _ _ _ _ _ _ _ _ _ _ _ _ _ _ rfl rfl GF.out) rfl ⟨((FrmA.of_below B1.out).trans F2.out).next FA.out (by rw [← HW.out.2]; omega), ⟨D', I2.out.frm FA.out N2.out (by have := XA.out; omega)⟩, _, _, .inl ⟨rfl, rfl, rfl⟩, rfl⟩
set_option maxRecDepth 100000 in
set_option maxHeartbeats 6400000 in
theorem paintx_none (pl : Bool) (k0 k1 k2 k3 x op : Int) (w : World) :
    Calls Try.prog 8 #[.pointer none, .agg #[.bool pl, .int .u8 k0, .int .u8 k1, .int .u8 k2, .int .u8 k3, .int .i64 x, .int .i64 op]] w (RetPost (.tuple #[.agg paintZ, .int .i64 1]) w) := by
  obtain ⟨w1, hw1⟩ : ∃ w1, w1 = (w.alloc (.cells #[.bool pl, .int .u8 k0, .int .u8 k1, .int .u8 k2, .int .u8 k3, .int .i64 x, .int .i64 op] 33)).alloc (.cells paintZ 40) := ⟨_, rfl⟩
  obtain ⟨A, hA⟩ : ∃ A, A = w.heap.size := ⟨_, rfl⟩
  have B1 : Hid (Below w.heap.size w w1) := Lib.hid (by rw [hw1]; exact bel2 _ _ _)
  have G1 : Hid (w1.heap[A + 1]? = some (.cells paintZ 40 (0, 0))) := Lib.hid (by rw [hw1, hA]; exact heap_alloc2_new _ _ _)
  have HW := Lib.hid (And.intro hw1 hA)
  clear hw1 hA
  go_enter Try.func8, Try.ntmps8
  go_upto_region 1 with (fail)
  rw [← HW.out.2, ← HW.out.1]
  go_wp2_with (refine wpList_store_row (o := ⟨none, Op.store 40 (.tmp 4) (.tmp 10), _, _, _, _⟩) (w := w1) rfl 40 (.tmp 4) (.tmp 10) rfl (A + 1) paintZ rfl rfl 40 paintZ G1.out Try.size40 rfl (paintL_one _ _ _ _ _ _ _ _ _ _ _ _ _ _) ?_)
  have GF := Lib.hid (setRow_heap w1 (A + 1) _ paintZ 40 (0, 0) G1.out)
  have FA : Hid (Below w.heap.size w (w1.setRow (A + 1) paintZ)) := Lib.hid (below_setRow B1.out (by rw [← HW.out.2]; omega) _)
  obtain ⟨wf, hwf⟩ : ∃ wf, wf = w1.setRow (A + 1) paintZ := ⟨_, rfl⟩
  rw [← hwf] at GF FA ⊢
  clear hwf
  exact bodyPost_ret (v := .tuple #[.agg paintZ, .int .i64 1]) (paint_res _ _ _ _ _ _ _ _ _ _ _ _ _ _ _ _ _ _ rfl rfl GF.out) rfl ⟨rfl, FA.out⟩
end Go.Proofs.Ytkhdielfnphheaa
