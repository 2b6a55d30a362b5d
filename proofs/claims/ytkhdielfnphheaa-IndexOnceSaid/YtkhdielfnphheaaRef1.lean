/- Contracts of the reference's ramp as a paint, and of its Paint. -/
import Derived.Test.YtkhdielfnphheaaAsk3
import Derived.Test.YtkhdielfnphheaaRef0
namespace Go.Proofs.Ytkhdielfnphheaa
open Go.RowKit

set_option maxRecDepth 100000 in
set_option maxHeartbeats 3200000 in
theorem rramp29 (i k px py qx qy r c0 c1 c2 c3 d0 d1 d2 d3 : Int) (w : World) :
    Calls Try.prog 29 #[.agg #[.int .i64 i, .int .i64 k, .int .i64 px, .int .i64 py, .int .i64 qx, .int .i64 qy, .int .i64 r, .int .u8 c0, .int .u8 c1, .int .u8 c2, .int .u8 c3, .int .u8 d0, .int .u8 d1, .int .u8 d2, .int .u8 d3]] w (RetPost (.agg (paintL k c0 c1 c2 c3 d0 d1 d2 d3 px py qx qy r)) w) := by
  obtain ⟨A, hA⟩ : ∃ A, A = w.heap.size := ⟨_, rfl⟩
  obtain ⟨w2, hw2⟩ : ∃ w2, w2 = (w.alloc (.cells #[.int .i64 i, .int .i64 k, .int .i64 px, .int .i64 py, .int .i64 qx, .int .i64 qy, .int .i64 r, .int .u8 c0, .int .u8 c1, .int .u8 c2, .int .u8 c3, .int .u8 d0, .int .u8 d1, .int .u8 d2, .int .u8 d3] 58)).alloc (.cells (paintL 0 0 0 0 0 0 0 0 0 0 0 0 0 0) 40) := ⟨_, rfl⟩
  have hg : Hid (w2.heap[A + 1]? = some (.cells (paintL 0 0 0 0 0 0 0 0 0 0 0 0 0 0) 40 (0, 0))) := Lib.hid (by rw [hw2, hA]; exact heap_alloc2_new _ _ _)
  have X1 : Hid (BxAt w2 A [.int .i64 i, .int .i64 k, .int .i64 px, .int .i64 py, .int .i64 qx, .int .i64 qy, .int .i64 r, .int .u8 c0, .int .u8 c1, .int .u8 c2, .int .u8 c3, .int .u8 d0, .int .u8 d1, .int .u8 d2, .int .u8 d3]) := Lib.hid (by rw [hw2, hA]; exact (BxAt.new w _ _).later (below_alloc _ _))
  have B2 : Hid (Below A w w2) := Lib.hid (by rw [hw2, hA]; exact bel2 _ _ _)
  have HW := Lib.hid (And.intro hw2 hA)
  clear hw2 hA
  go_enter Try.func29, Try.ntmps29
  go_upto_region 1 with (fail)
  rw [← HW.out.2, ← HW.out.1]
  have x1 := X1.out.2.2 1 _ rfl
  have x2 := X1.out.2.2 2 _ rfl
  have x3 := X1.out.2.2 3 _ rfl
  have x4 := X1.out.2.2 4 _ rfl
  have x5 := X1.out.2.2 5 _ rfl
  have x6 := X1.out.2.2 6 _ rfl
  have x7 := X1.out.2.2 7 _ rfl
  have x8 := X1.out.2.2 8 _ rfl
  have x9 := X1.out.2.2 9 _ rfl
  have x10 := X1.out.2.2 10 _ rfl
  have x11 := X1.out.2.2 11 _ rfl
  have x12 := X1.out.2.2 12 _ rfl
  have x13 := X1.out.2.2 13 _ rfl
  have x14 := X1.out.2.2 14 _ rfl
  go_wp2_with (refine wpList_store_row (o := ⟨none, Op.store 40 (.tmp 2) (.tmp 15), _, _, _, _⟩) (w := w2) rfl 40 (.tmp 2) (.tmp 15) rfl (A + 1) (paintL k c0 c1 c2 c3 d0 d1 d2 d3 px py qx qy r) rfl rfl 40 (paintL 0 0 0 0 0 0 0 0 0 0 0 0 0 0) hg.out Try.size40 rfl (by simp [Value.oneCell']) ?_)
  obtain ⟨l, hs⟩ := Try.struct40
  refine bodyPost_ret (v := .agg (paintL k c0 c1 c2 c3 d0 d1 d2 d3 px py qx qy r)) ?_ rfl ⟨rfl, ?_⟩
  · exact results_cell_row (g := A + 1) (t := 40) (fr := (0, 0)) rfl _ _ _ _ rfl (setRow_heap _ _ _ _ _ _ hg.out) hs rfl Try.size40
  · rw [← HW.out.2]
    exact below_setRow B2.out (by omega) _
theorem paint_res9 (wf : World) (R : Nat) (er k c0 c1 c2 c3 d0 d1 d2 d3 px py qx qy r : Int) (tmps : Array Value) (h4 : tmps[4]? = some (.pointer (some ⟨R, 0, none⟩))) (h5 : tmps[5]? = some (.int .i64 er)) (hg : wf.heap[R]? = some (.cells (paintL k c0 c1 c2 c3 d0 d1 d2 d3 px py qx qy r) 40 (0, 0))) :
    (results Try.f9 tmps).run Try.prog wf = .ok (.tuple #[.agg (paintL k c0 c1 c2 c3 d0 d1 d2 d3 px py qx qy r), .int .i64 er]) wf := by
  obtain ⟨l, hs⟩ := Try.struct40
  have hl := run_loadVar_row (P := Try.prog) wf R 40 40 _ (0, 0) _ hg hs rfl Try.size40
  simp [results, Try.results9, asAddr, h4, h5, hl]
def RPaintPost (S : Sc) (pl : Bool) (k0 k1 k2 k3 x : Int) (w : World) (e : Ending) (w' : World) : Prop := Below w.heap.size w w' ∧ ∃ P er, PaintIs S pl k0 k1 k2 k3 x P er ∧ e = .returned (.tuple #[.agg P, .int .i64 er])
set_option maxRecDepth 100000 in
set_option maxHeartbeats 6400000 in
theorem rpaint9 (S : Sc) (u0 u1 u2 u3 u4 u5 u6 hd mt rm gl pc it : Value) (pl : Bool) (k0 k1 k2 k3 x op : Int) (w : World) (hD : DataV S rm gl pc w) (ok : ScOk S) :
    Calls Try.prog 9 #[.agg #[u0, u1, u2, u3, u4, u5, u6, hd, mt, rm, gl, pc, it], .agg #[.bool pl, .int .u8 k0, .int .u8 k1, .int .u8 k2, .int .u8 k3, .int .i64 x, .int .i64 op]] w (RPaintPost S pl k0 k1 k2 k3 x w) := by
  obtain ⟨rp, rc, rfl⟩ : ∃ a c, rm = .slice a S.nr c := hD.1.slice
  obtain ⟨w1, hw1⟩ : ∃ w1, w1 = ((w.alloc (.cells #[u0, u1, u2, u3, u4, u5, u6, hd, mt, .slice rp S.nr rc, gl, pc, it] 31)).alloc (.cells #[.bool pl, .int .u8 k0, .int .u8 k1, .int .u8 k2, .int .u8 k3, .int .i64 x, .int .i64 op] 33)).alloc (.cells paintZ 40) := ⟨_, rfl⟩
  obtain ⟨A, hA⟩ : ∃ A, A = w.heap.size := ⟨_, rfl⟩
  have B1 : Hid (Below w.heap.size w w1) := Lib.hid (by rw [hw1]; exact bthen (bel2 _ _ _) (below_alloc _ _))
  have X1 : Hid (BxAt w1 A [u0, u1, u2, u3, u4, u5, u6, hd, mt, .slice rp S.nr rc, gl, pc, it]) := Lib.hid (by rw [hw1, hA]; exact ((BxAt.new w _ _).later (below_alloc _ _)).later (below_alloc _ _))
  have Y1 : Hid (BxAt w1 (A + 1) [.bool pl, .int .u8 k0, .int .u8 k1, .int .u8 k2, .int .u8 k3, .int .i64 x, .int .i64 op]) := Lib.hid (by rw [hw1, hA]; exact (bx_b w _ _ _).later (below_alloc _ _))
  have G1 : Hid (w1.heap[A + 1 + 1]? = some (.cells paintZ 40 (0, 0))) := Lib.hid (by
    rw [hw1, hA]
    have := heap_alloc_new ((w.alloc (.cells #[u0, u1, u2, u3, u4, u5, u6, hd, mt, .slice rp S.nr rc, gl, pc, it] 31)).alloc (.cells #[.bool pl, .int .u8 k0, .int .u8 k1, .int .u8 k2, .int .u8 k3, .int .i64 x, .int .i64 op] 33)) (.cells paintZ 40)
    simpa using this)
  have S1 : Hid (A + 1 + 1 < w1.heap.size) := Lib.hid (Array.getElem?_eq_some_iff.1 G1.out).1
  have D1 := Lib.hid (hD.later B1.out)
  have CR := Lib.hid (rramp17 S u0 u1 u2 u3 u4 u5 u6 hd mt it (.slice rp S.nr rc) gl pc x w1 D1.out ok)
  have nrb : S.nr ≤ 3600000000000 := by have := ok.br; omega
  have HW := Lib.hid (And.intro hw1 hA)
  clear hw1 hA hD ok
  have x0 := X1.out.2.2 0 _ rfl
  have x1 := X1.out.2.2 1 _ rfl
  have x2 := X1.out.2.2 2 _ rfl
  have x3 := X1.out.2.2 3 _ rfl
  have x4 := X1.out.2.2 4 _ rfl
  have x5 := X1.out.2.2 5 _ rfl
  have x6 := X1.out.2.2 6 _ rfl
  have x7 := X1.out.2.2 7 _ rfl
  have x8 := X1.out.2.2 8 _ rfl
  have x9 := X1.out.2.2 9 _ rfl
  have x10 := X1.out.2.2 10 _ rfl
  have x11 := X1.out.2.2 11 _ rfl
  have x12 := X1.out.2.2 12 _ rfl
  have y0 := Y1.out.2.2 0 _ rfl
  have y1 := Y1.out.2.2 1 _ rfl
  have y2 := Y1.out.2.2 2 _ rfl
  have y3 := Y1.out.2.2 3 _ rfl
  have y4 := Y1.out.2.2 4 _ rfl
  have y5 := Y1.out.2.2 5 _ rfl
  go_enter Try.func9, Try.ntmps9
  go_upto_region 1 with (fail)
  rw [← HW.out.2, ← HW.out.1]
  cases pl
  · rcases fstI_spec (nmR S) x S.nr with ⟨h1, -⟩ | ⟨p, h1, h2, -⟩
    · rw [h1] at CR
      have H1 := Lib.hid h1
      clear h1
      go_wp2_with fail
      refine CR.out.mono ?_
      rintro e w2 ⟨rfl, hb2⟩
      have B2 := Lib.hid (bthen B1.out hb2)
      have G2 : Hid (w2.heap[A + 1 + 1]? = some (.cells paintZ 40 (0, 0))) := Lib.hid ((hb2.block _ S1.out).trans G1.out)
      clear hb2 x0 x1 x2 x3 x4 x5 x6 x7 x8 x9 x10 x11 x12 y0 y1 y2 y3 y4 y5
      go_wp2_with (refine wpList_store_row (o := ⟨none, Op.store 40 (.tmp 4) (.tmp 18), _, _, _, _⟩) (w := w2) rfl 40 (.tmp 4) (.tmp 18) rfl (A + 1 + 1) paintZ rfl rfl 40 paintZ G2.out Try.size40 rfl (paintL_one _ _ _ _ _ _ _ _ _ _ _ _ _ _) ?_)
      have GF := Lib.hid (setRow_heap w2 (A + 1 + 1) _ paintZ 40 (0, 0) G2.out)
      have BF : Hid (Below w.heap.size w (w2.setRow (A + 1 + 1) paintZ)) := Lib.hid (below_setRow B2.out (by rw [← HW.out.2]; omega) _)
      exact bodyPost_ret (v := .tuple #[.agg paintZ, .int .i64 8]) (paint_res9 _ _ _ _ _ _ _ _ _ _ _ _ _ _ _ _ _ _ rfl rfl GF.out) rfl ⟨BF.out, _, _, .inr (.inl ⟨rfl, H1.out, rfl, rfl⟩), rfl⟩
    · rw [h1] at CR
      have H1 := Lib.hid h1
      clear h1
      go_wp2_with fail
      refine CR.out.mono ?_
      rintro e w2 ⟨rfl, hb2⟩
      have B2 := Lib.hid (bthen B1.out hb2)
      have G2 : Hid (w2.heap[A + 1 + 1]? = some (.cells paintZ 40 (0, 0))) := Lib.hid ((hb2.block _ S1.out).trans G1.out)
      have S2 : Hid (A + 1 + 1 < w2.heap.size) := Lib.hid (Nat.lt_of_lt_of_le S1.out hb2.size)
      have z9 := (X1.out.later hb2).2.2 9 _ rfl
      obtain ⟨a, cap, he, hnn, hcell⟩ := D1.out.1.later hb2
      obtain ⟨g, off, rfl, hc3⟩ := hcell (by omega)
      obtain ⟨rfl, rfl⟩ : rp = some ⟨g, off, none⟩ ∧ rc = cap := by simpa using he
      have c0 : w2.cell? ⟨g, off + p * 15, none⟩ = some (.int .i64 (S.R p 0)) := hc3 p 0 h2 (by omega)
      have c1 : w2.cell? ⟨g, off + p * 15 + 1, none⟩ = some (.int .i64 (S.R p 1)) := hc3 p 1 h2 (by omega)
      have c2 : w2.cell? ⟨g, off + p * 15 + 2, none⟩ = some (.int .i64 (S.R p 2)) := hc3 p 2 h2 (by omega)
      have c3 : w2.cell? ⟨g, off + p * 15 + 3, none⟩ = some (.int .i64 (S.R p 3)) := hc3 p 3 h2 (by omega)
      have c4 : w2.cell? ⟨g, off + p * 15 + 4, none⟩ = some (.int .i64 (S.R p 4)) := hc3 p 4 h2 (by omega)
      have c5 : w2.cell? ⟨g, off + p * 15 + 5, none⟩ = some (.int .i64 (S.R p 5)) := hc3 p 5 h2 (by omega)
      have c6 : w2.cell? ⟨g, off + p * 15 + 6, none⟩ = some (.int .i64 (S.R p 6)) := hc3 p 6 h2 (by omega)
      have c7 : w2.cell? ⟨g, off + p * 15 + 7, none⟩ = some (.int .u8 (S.R p 7)) := hc3 p 7 h2 (by omega)
      have c8 : w2.cell? ⟨g, off + p * 15 + 8, none⟩ = some (.int .u8 (S.R p 8)) := hc3 p 8 h2 (by omega)
      have c9 : w2.cell? ⟨g, off + p * 15 + 9, none⟩ = some (.int .u8 (S.R p 9)) := hc3 p 9 h2 (by omega)
      have c10 : w2.cell? ⟨g, off + p * 15 + 10, none⟩ = some (.int .u8 (S.R p 10)) := hc3 p 10 h2 (by omega)
      have c11 : w2.cell? ⟨g, off + p * 15 + 11, none⟩ = some (.int .u8 (S.R p 11)) := hc3 p 11 h2 (by omega)
      have c12 : w2.cell? ⟨g, off + p * 15 + 12, none⟩ = some (.int .u8 (S.R p 12)) := hc3 p 12 h2 (by omega)
      have c13 : w2.cell? ⟨g, off + p * 15 + 13, none⟩ = some (.int .u8 (S.R p 13)) := hc3 p 13 h2 (by omega)
      have c14 : w2.cell? ⟨g, off + p * 15 + 14, none⟩ = some (.int .u8 (S.R p 14)) := hc3 p 14 h2 (by omega)
      have pI : (p : Int) < (S.nr : Int) := by omega
      have p0 : (0 : Int) ≤ (p : Int) := by omega
      have p1 : ¬ (p : Int) < 0 := by omega
      clear hb2 x0 x1 x2 x3 x4 x5 x6 x7 x8 x9 x10 x11 x12 y0 y1 y2 y3 y4 y5 hc3 hcell hnn he
      go_wp2_with fail
      refine (rramp29 _ _ _ _ _ _ _ _ _ _ _ _ _ _ _ _).mono ?_
      rintro e w3 ⟨rfl, hb3⟩
      have B3 := Lib.hid (bthen B2.out hb3)
      have G3 : Hid (w3.heap[A + 1 + 1]? = some (.cells paintZ 40 (0, 0))) := Lib.hid ((hb3.block _ S2.out).trans G2.out)
      clear hb3 c0 c1 c2 c3 c4 c5 c6 c7 c8 c9 c10 c11 c12 c13 c14 z9
      go_wp2_with (refine wpList_store_row (o := ⟨none, Op.store 40 (.tmp 4) (.tmp 24), _, _, _, _⟩) (w := w3) rfl 40 (.tmp 4) (.tmp 24) rfl (A + 1 + 1) (paintR S p) rfl rfl 40 paintZ G3.out Try.size40 rfl (paintL_one _ _ _ _ _ _ _ _ _ _ _ _ _ _) ?_)
      have GF := Lib.hid (setRow_heap w3 (A + 1 + 1) _ (paintR S p) 40 (0, 0) G3.out)
      have BF : Hid (Below w.heap.size w (w3.setRow (A + 1 + 1) (paintR S p))) := Lib.hid (below_setRow B3.out (by rw [← HW.out.2]; omega) _)
      exact bodyPost_ret (v := .tuple #[.agg (paintR S p), .int .i64 0]) (paint_res9 _ _ _ _ _ _ _ _ _ _ _ _ _ _ _ _ _ _ rfl rfl GF.out) rfl ⟨BF.out, _, _, .inr (.inr ⟨rfl, p, h2, H1.out, rfl, rfl⟩), rfl⟩
  · clear x0 x1 x2 x3 x4 x5 x6 x7 x8 x9 x10 x11 x12
    go_wp2_with (refine wpList_store_row (o := ⟨none, Op.store 40 (.tmp 4) (.tmp 11), _, _, _, _⟩) (w := w1) rfl 40 (.tmp 4) (.tmp 11) rfl (A + 1 + 1) (paintC k0 k1 k2 k3) rfl rfl 40 paintZ G1.out Try.size40 rfl (paintL_one _ _ _ _ _ _ _ _ _ _ _ _ _ _) ?_)
    have GF := Lib.hid (setRow_heap w1 (A + 1 + 1) _ (paintC k0 k1 k2 k3) 40 (0, 0) G1.out)
    have BF : Hid (Below w.heap.size w (w1.setRow (A + 1 + 1) (paintC k0 k1 k2 k3))) := Lib.hid (below_setRow B1.out (by rw [← HW.out.2]; omega) _)
    exact bodyPost_ret (v := .tuple #[.agg (paintC k0 k1 k2 k3), .int .i64 0]) (paint_res9 _ _ _ _ _ _ _ _ _ _ _ _ _ _ _ _ _ _ rfl rfl GF.out) rfl ⟨BF.out, _, _, .inl ⟨rfl, rfl, rfl⟩, rfl⟩
end Go.Proofs.Ytkhdielfnphheaa
