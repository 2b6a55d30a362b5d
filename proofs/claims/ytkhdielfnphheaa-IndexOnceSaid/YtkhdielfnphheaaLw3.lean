/- The walk of IndexPaints. -/
import Derived.Test.YtkhdielfnphheaaRef1
import Derived.Test.YtkhdielfnphheaaLw6
namespace Go.Proofs.Ytkhdielfnphheaa
open Go.RowKit

theorem yields_row {P : Program} {ops : Array Oper} {S : World → Prop} {op : Oper} {a : Act} (hw : Region.wanted op (yielded ops a.tmps) = true) (ty : TypeId) (x : Operand) (ho : op.op = .load ty x)
    (g : Nat) (hx : a.eval x = .pointer (some ⟨g, 0, none⟩)) (t : TypeId) (cs : Array Value) (fr : Nat × Nat) (d : TypeDesc) (hS : ∀ w, S w → w.heap[g]? = some (.cells cs t fr))
    (hu : P.underlying ty = some d) (hd : (match d with | .struct _ | .array _ _ => true | _ => false) = true) (hi : (P.info? ty).map (·.size) = some cs.size) : YieldsIf P ops S op (.agg cs) a :=
  .inl ⟨hw, fun w hw' => by
    unfold execOp
    simp only [ho, hx, Instr.loadAt, Instr.sureAddr, Sem.run_bind, Sem.run_pure, Result.andThen_ok, run_loadVar_row w g t ty cs fr d (hS w hw') hu hd hi]⟩
theorem step_store_row {P : Program} {ops : Array Oper} {o : Oper} {a : Act} {K : Act → World → Prop} {Q : Exit → Act → World → Prop} {E : Prop} {w : World} (hgd : o.guard = none) (ty : TypeId) (x y : Operand) (ho : o.op = .store ty x y)
    (g : Nat) (cells : Array Value) (hx : a.eval x = .pointer (some ⟨g, 0, none⟩)) (hy : a.eval y = .agg cells)
    (t : TypeId) (old : Array Value) (hg : w.heap[g]? = some (.cells old t (0, 0))) (hi : (P.info? ty).map (·.size) = some cells.size)
    (hold : old.size = cells.size) (h1 : cells.all (·.oneCell') = true)
    (h : K (a.put o.dst undef) (w.setRow g cells)) : if Region.wanted o (yielded ops a.tmps) = true then Oper.wp P o a w K Q else E := by
  rw [if_pos (by simp [Region.wanted, hgd])]
  exact wp_store_row ty x y ho g cells hx hy t old hg hi hold h1 h
theorem Try.struct31 : ∃ l, Try.prog.underlying 31 = some (.struct l) := struct_of (by kernel_rfl)
theorem Try.struct33 : ∃ l, Try.prog.underlying 33 = some (.struct l) := struct_of (by kernel_rfl)
theorem Try.size31 : (Try.prog.info? 31).map (·.size) = some 13 := by kernel_rfl
theorem Try.size33 : (Try.prog.info? 33).map (·.size) = some 7 := by kernel_rfl
theorem PaintIs.same {S : Sc} {pl : Bool} {k0 k1 k2 k3 x er er' : Int} {P P' : Array Value} (h : PaintIs S pl k0 k1 k2 k3 x P er) (h' : PaintIs S pl k0 k1 k2 k3 x P' er') : P = P' ∧ er = er' := by
  rcases h with ⟨a, b, c⟩ | ⟨a, b, c, d⟩ | ⟨a, p, b, c, d, e⟩ <;> rcases h' with ⟨a', b', c'⟩ | ⟨a', b', c', d'⟩ | ⟨a', p', b', c', d', e'⟩
  · exact ⟨b.trans b'.symm, c.trans c'.symm⟩
  · rw [a] at a'; cases a'
  · rw [a] at a'; cases a'
  · rw [a] at a'; cases a'
  · exact ⟨c.trans c'.symm, d.trans d'.symm⟩
  · rw [b] at c'; omega
  · rw [a] at a'; cases a'
  · rw [c] at b'; omega
  · have : p = p' := by rw [c] at c'; omega
    subst this
    exact ⟨d.trans d'.symm, e.trans e'.symm⟩
theorem PaintIs.form {S : Sc} {pl : Bool} {k0 k1 k2 k3 x er : Int} {P : Array Value} (h : PaintIs S pl k0 k1 k2 k3 x P er) : ∃ q0 q1 q2 q3 q4 q5 q6 q7 q8 q9 q10 q11 q12 q13, P = paintL q0 q1 q2 q3 q4 q5 q6 q7 q8 q9 q10 q11 q12 q13 := by
  rcases h with ⟨_, h, _⟩ | ⟨_, _, h, _⟩ | ⟨_, p, _, _, h, _⟩
  all_goals exact ⟨_, _, _, _, _, _, _, _, _, _, _, _, _, _, h⟩
set_option maxRecDepth 100000 in
set_option maxHeartbeats 6400000 in
theorem paints_any (S : Sc) (u0 u1 u2 u3 u4 u5 u6 hd mt rm gl pc it : Value) (pl : Bool) (k0 k1 k2 k3 x op : Int) (w : World) (hD : DataV S rm gl pc w) (hH : Row w hd S.nh 1 S.H) (ok : ScOk S) :
    Calls Try.prog 3 #[.agg #[u0, u1, u2, u3, u4, u5, u6, hd, mt, rm, gl, pc, it], .agg #[.bool pl, .int .u8 k0, .int .u8 k1, .int .u8 k2, .int .u8 k3, .int .i64 x, .int .i64 op]] w (RetPost (.bool true) w) := by
  obtain ⟨w1, hw1⟩ : ∃ w1, w1 = (w.alloc (.cells #[u0, u1, u2, u3, u4, u5, u6, hd, mt, rm, gl, pc, it] 31)).alloc (.cells #[.bool pl, .int .u8 k0, .int .u8 k1, .int .u8 k2, .int .u8 k3, .int .i64 x, .int .i64 op] 33) := ⟨_, rfl⟩
  obtain ⟨A, hA⟩ : ∃ A, A = w.heap.size := ⟨_, rfl⟩
  have B1 : Hid (Below w.heap.size w w1) := Lib.hid (by rw [hw1]; exact bel2 _ _ _)
  have X1 : Hid (w1.heap[A]? = some (.cells #[u0, u1, u2, u3, u4, u5, u6, hd, mt, rm, gl, pc, it] 31 (0, 0))) := Lib.hid (by rw [hw1, hA]; exact heap_alloc2_old _ _ _)
  have Y1 : Hid (w1.heap[A + 1]? = some (.cells #[.bool pl, .int .u8 k0, .int .u8 k1, .int .u8 k2, .int .u8 k3, .int .i64 x, .int .i64 op] 33 (0, 0))) := Lib.hid (by rw [hw1, hA]; exact heap_alloc2_new _ _ _)
  have S1 : Hid (w1.heap.size = A + 1 + 1) := Lib.hid (by rw [hw1, hA]; simp)
  have NW := Lib.hid (fun (W : World) (hb : Below w1.heap.size w1 W) => new_any S u0 u1 u2 u3 u4 u5 u6 hd mt rm gl pc it W (hD.later (bthen B1.out hb)) (hH.later (bthen B1.out hb)) ok)
  have RP := Lib.hid (fun (W : World) (hb : Below w.heap.size w W) => rpaint9 S u0 u1 u2 u3 u4 u5 u6 hd mt rm gl pc it pl k0 k1 k2 k3 x op W (hD.later hb) ok)
  have OK := Lib.hid ok
  have HW := Lib.hid (And.intro hw1 hA)
  clear hw1 hA hD hH ok
  obtain ⟨l31, hs31⟩ := Try.struct31
  obtain ⟨l33, hs33⟩ := Try.struct33
  have HS31 := Lib.hid hs31
  have HS33 := Lib.hid hs33
  clear hs31 hs33
  go_enter Try.func3, Try.ntmps3
  go_upto_region 1 with (fail)
  rw [← HW.out.2, ← HW.out.1]
  refine wp_region_held_drew (S := fun w' => w'.heap[A]? = some (.cells #[u0, u1, u2, u3, u4, u5, u6, hd, mt, rm, gl, pc, it] 31 (0, 0)) ∧ w'.heap[A + 1]? = some (.cells #[.bool pl, .int .u8 k0, .int .u8 k1, .int .u8 k2, .int .u8 k3, .int .i64 x, .int .i64 op] 33 (0, 0))) (by kernel_rfl) ⟨X1.out, Y1.out⟩ (fun hSw => ?_)
  refine wpAnyH_take (i := 0) (v := .agg #[u0, u1, u2, u3, u4, u5, u6, hd, mt, rm, gl, pc, it]) rfl (by kernel_rfl) (by kernel_rfl) (by kernel_rfl) (fun _ _ _ h => h) (yields_row (by rfl) 31 (.tmp 2) rfl A rfl 31 _ (0, 0) _ (fun _ h => h.1) HS31.out rfl Try.size31) hSw ?_
  (try simp only [Act.put, List.setIfInBounds_toArray, List.set_cons_zero, List.set_cons_succ, List.getElem_toArray, List.getElem_cons_zero])
  refine wpAnyH_take (i := 2) (v := .agg #[.bool pl, .int .u8 k0, .int .u8 k1, .int .u8 k2, .int .u8 k3, .int .i64 x, .int .i64 op]) rfl (by kernel_rfl) (by kernel_rfl) (by kernel_rfl) (fun _ _ _ h => h) (yields_row (by rfl) 33 (.tmp 3) rfl (A + 1) rfl 33 _ (0, 0) _ (fun _ h => h.2) HS33.out rfl Try.size33) hSw ?_
  (try simp only [Act.put, List.setIfInBounds_toArray, List.set_cons_zero, List.set_cons_succ, List.getElem_toArray, List.getElem_cons_succ, List.getElem_cons_zero])
  refine wpAnyH_ready (rs := [1, 7]) (by kernel_rfl) (by simp) ?_
  refine AllReadyH.cons rfl (fun KK hKK => ?_) (AllReadyH.cons rfl (fun KK hKK => ?_) AllReadyH.nil)
  · -- call 7 first
    go_simp
    refine (NW.out (w1.drew) ((show Below w1.heap.size w1 w1.drew from (Below.refl _ _).drew))).mono ?_
    intro e v1 hn
    obtain ⟨X, rfl, hX, hb, D, hI⟩ := idx_of_new hn
    have bv : Below w1.heap.size w1 v1 := ((show Below w1.heap.size w1 w1.drew from (Below.refl _ _).drew)).trans (hb.mono ((show Below w1.heap.size w1 w1.drew from (Below.refl _ _).drew)).size)
    have BV := Lib.hid bv
    have II := Lib.hid hI
    have HX : Hid (w1.heap.size ≤ X) := Lib.hid (Nat.le_trans ((show Below w1.heap.size w1 w1.drew from (Below.refl _ _).drew)).size hX)
    have xa := (bv.block A (by rw [S1.out]; omega)).trans X1.out
    have ya := (bv.block (A + 1) (by rw [S1.out]; omega)).trans Y1.out
    clear hn hX hb hI bv
    refine hKK.out _ _ ⟨xa, ya⟩ (fun hSw => ?_)
    clear hKK KK
    (try simp only [Act.put, List.setIfInBounds_toArray, List.set_cons_zero, List.set_cons_succ, List.getElem_toArray, List.getElem_cons_succ, List.getElem_cons_zero])
    refine wpAnyH_ready (rs := [3, 7]) (by kernel_rfl) (by simp) ?_
    refine AllReadyH.cons rfl (fun KK hKK => ?_) (AllReadyH.cons rfl (fun KK hKK => ?_) AllReadyH.nil)
    · -- then call 8
      have BW := BV
      go_simp
      refine (paintx_any S X pl k0 k1 k2 k3 x op (v1) (.inl ⟨D, II.out⟩) OK.out).mono ?_
      rintro e v2 ⟨hf, ha, P, er, hp, rfl⟩
      obtain ⟨q0, q1, q2, q3, q4, q5, q6, q7, q8, q9, q10, q11, q12, q13, rfl⟩ := hp.form
      have PI := Lib.hid hp
      have F2 := Lib.hid hf
      have xa := (hf.block A (Nat.lt_of_lt_of_le (by rw [S1.out]; omega) BW.out.size) (by have := HX.out; rw [S1.out] at this; omega)).trans hSw.1
      have ya := (hf.block (A + 1) (Nat.lt_of_lt_of_le (by rw [S1.out]; omega) BW.out.size) (by have := HX.out; rw [S1.out] at this; omega)).trans hSw.2
      have BZ : Hid (Below w.heap.size w v2) := Lib.hid ((bthen B1.out BW.out).trans (hf.below (Nat.le_trans B1.out.size HX.out) (bthen B1.out BW.out).size))
      clear ha hp
      clear hf
      refine hKK.out _ _ ⟨xa, ya⟩ (fun hSw => ?_)
      clear hKK KK
      (try simp only [Act.put, List.setIfInBounds_toArray, List.set_cons_zero, List.set_cons_succ, List.getElem_toArray, List.getElem_cons_succ, List.getElem_cons_zero])
      refine wpAnyH_take (i := 4) (v := ?_) rfl (by kernel_rfl) (by kernel_rfl) (by kernel_rfl) (fun _ _ _ h => h) (Or.inl ⟨by rfl, ?_⟩) hSw ?_
      rotate_left
      · (intro wS hSx; go_simp)
        all_goals with_reducible rfl
      (try simp only [Act.put, List.setIfInBounds_toArray, List.set_cons_zero, List.set_cons_succ, List.getElem_toArray, List.getElem_cons_succ, List.getElem_cons_zero])
      refine wpAnyH_take (i := 5) (v := ?_) rfl (by kernel_rfl) (by kernel_rfl) (by kernel_rfl) (fun _ _ _ h => h) (Or.inl ⟨by rfl, ?_⟩) hSw ?_
      rotate_left
      · (intro wS hSx; go_simp)
        all_goals with_reducible rfl
      (try simp only [Act.put, List.setIfInBounds_toArray, List.set_cons_zero, List.set_cons_succ, List.getElem_toArray, List.getElem_cons_succ, List.getElem_cons_zero])
      refine wpAnyH_take (i := 6) (v := ?_) rfl (by kernel_rfl) (by kernel_rfl) (by kernel_rfl) (fun _ _ _ h => h) (Or.inl ⟨by rfl, ?_⟩) hSw ?_
      rotate_left
      · (intro wS hSx; go_simp)
        all_goals with_reducible rfl
      (try simp only [Act.put, List.setIfInBounds_toArray, List.set_cons_zero, List.set_cons_succ, List.getElem_toArray, List.getElem_cons_succ, List.getElem_cons_zero])
      refine wpAnyH_ready (rs := [7]) (by kernel_rfl) (by simp) ?_
      refine AllReadyH.cons rfl (fun KK hKK => ?_) AllReadyH.nil
      go_simp
      obtain ⟨V, hV⟩ : ∃ V, V = v2.heap.size := ⟨_, rfl⟩
      obtain ⟨vz, hvz⟩ : ∃ vz, vz = v2.alloc (.cells paintZ 40) := ⟨_, rfl⟩
      have GZ : Hid (vz.heap[V]? = some (.cells paintZ 40 (0, 0))) := Lib.hid (by rw [hvz, hV]; exact heap_alloc_new v2 _)
      have VL : Hid (w1.heap.size ≤ V) := Lib.hid (by rw [hV]; exact Nat.le_trans BV.out.size F2.out.size)
      have bz : Below v2.heap.size v2 vz := by rw [hvz]; exact below_alloc _ _
      have xa := (bz.block A (Nat.lt_of_lt_of_le (by rw [S1.out]; omega) (Nat.le_trans BV.out.size F2.out.size))).trans hSw.1
      have ya := (bz.block (A + 1) (Nat.lt_of_lt_of_le (by rw [S1.out]; omega) (Nat.le_trans BV.out.size F2.out.size))).trans hSw.2
      have BZ := Lib.hid (bthen BZ.out bz)
      rw [← hvz, ← hV]
      clear hvz hV bz
      refine hKK.out _ _ ⟨xa, ya⟩ (fun hSw => ?_)
      clear hKK KK
      (try simp only [Act.put, List.setIfInBounds_toArray, List.set_cons_zero, List.set_cons_succ, List.getElem_toArray, List.getElem_cons_succ, List.getElem_cons_zero])
      clear F2 BV BW
      refine wpAnyH_ready (rs := [8]) (by kernel_rfl) (by simp) ?_
      refine AllReadyH.cons rfl (fun KK hKK => ?_) AllReadyH.nil
      refine step_store_row rfl 40 (.tmp 5) (.tmp 14) rfl V (paintL q0 q1 q2 q3 q4 q5 q6 q7 q8 q9 q10 q11 q12 q13) rfl rfl 40 paintZ GZ.out Try.size40 rfl (paintL_one _ _ _ _ _ _ _ _ _ _ _ _ _ _) ?_
      have xa := (setRow_other vz V A (paintL q0 q1 q2 q3 q4 q5 q6 q7 q8 q9 q10 q11 q12 q13) (by have := VL.out; rw [S1.out] at this; omega)).trans hSw.1
      have ya := (setRow_other vz V (A + 1) (paintL q0 q1 q2 q3 q4 q5 q6 q7 q8 q9 q10 q11 q12 q13) (by have := VL.out; rw [S1.out] at this; omega)).trans hSw.2
      have GF := Lib.hid (setRow_heap vz V _ (paintL q0 q1 q2 q3 q4 q5 q6 q7 q8 q9 q10 q11 q12 q13) 40 (0, 0) GZ.out)
      have BF := Lib.hid (below_setRow BZ.out (Nat.le_trans B1.out.size VL.out) (paintL q0 q1 q2 q3 q4 q5 q6 q7 q8 q9 q10 q11 q12 q13))
      obtain ⟨wf, hwf⟩ : ∃ wf, wf = vz.setRow V (paintL q0 q1 q2 q3 q4 q5 q6 q7 q8 q9 q10 q11 q12 q13) := ⟨_, rfl⟩
      rw [← hwf] at xa ya GF BF ⊢
      clear hwf GZ BZ
      refine hKK.out _ _ ⟨xa, ya⟩ (fun hSw => ?_)
      clear hKK KK
      (try simp only [Act.put, List.getElem_toArray, List.getElem_cons_succ, List.getElem_cons_zero])
      refine wpAnyH_ready (rs := [9]) (by kernel_rfl) (by simp) ?_
      refine AllReadyH.cons rfl (fun KK hKK => ?_) AllReadyH.nil
      go_simp
      have xa := hSw.1
      have ya := hSw.2
      refine hKK.out _ _ ⟨xa, ya⟩ (fun hSw => ?_)
      clear hKK KK
      (try simp only [Act.put, List.setIfInBounds_toArray, List.set_cons_zero, List.set_cons_succ, List.getElem_toArray, List.getElem_cons_succ, List.getElem_cons_zero])
      refine wpAnyH_done (by kernel_rfl) ?_ _
      have GF2 := hSw.1
      have GF3 := hSw.2
      have XF := Lib.hid GF2
      have YF := Lib.hid GF3
      clear GF2 GF3 hSw
      as_aux_lemma =>
      go_upto_region 2 with (fail)
      go_wp2_with (first
        | (refine wpList_load_row (o := ⟨some 17, Op.load 31 (.tmp 2), _, _, _, _⟩) rfl 31 (.tmp 2) rfl A rfl 31 _ (0, 0) _ XF.out HS31.out rfl Try.size31 ?_)
        | (refine wpList_load_row (o := ⟨some 18, Op.load 33 (.tmp 3), _, _, _, _⟩) rfl 33 (.tmp 3) rfl (A + 1) rfl 33 _ (0, 0) _ YF.out HS33.out rfl Try.size33 ?_))
      refine (RP.out wf BF.out).mono ?_
      rintro e w3 ⟨hb3, P', er', hp', rfl⟩
      obtain ⟨rfl, rfl⟩ := PI.out.same hp'
      have VF : Hid (V < wf.heap.size) := Lib.hid (Array.getElem?_eq_some_iff.1 GF.out).1
      have G3 : Hid (w3.heap[V]? = some (.cells (paintL q0 q1 q2 q3 q4 q5 q6 q7 q8 q9 q10 q11 q12 q13) 40 (0, 0))) := Lib.hid ((hb3.block V VF.out).trans GF.out)
      have V3 : Hid (V < w3.heap.size) := Lib.hid (Nat.lt_of_lt_of_le VF.out hb3.size)
      have B3 := Lib.hid (bthen BF.out hb3)
      clear hb3 hp'
      go_upto_region 3 with (refine wpList_store_row (o := ⟨none, Op.store 40 (.tmp 7) (.tmp 20), _, _, _, _⟩) (w := w3.alloc (.cells paintZ 40)) rfl 40 (.tmp 7) (.tmp 20) rfl w3.heap.size (paintL q0 q1 q2 q3 q4 q5 q6 q7 q8 q9 q10 q11 q12 q13) rfl rfl 40 paintZ (heap_alloc_new w3 _) Try.size40 rfl (paintL_one _ _ _ _ _ _ _ _ _ _ _ _ _ _) ?_)
      have G4 : Hid (((w3.alloc (.cells paintZ 40)).setRow w3.heap.size (paintL q0 q1 q2 q3 q4 q5 q6 q7 q8 q9 q10 q11 q12 q13)).heap[V]? = some (.cells (paintL q0 q1 q2 q3 q4 q5 q6 q7 q8 q9 q10 q11 q12 q13) 40 (0, 0))) := Lib.hid ((setRow_other _ _ V _ (by have := V3.out; omega)).trans ((heap_alloc_old w3 _ V3.out).trans G3.out))
      have U4 : Hid (((w3.alloc (.cells paintZ 40)).setRow w3.heap.size (paintL q0 q1 q2 q3 q4 q5 q6 q7 q8 q9 q10 q11 q12 q13)).heap[w3.heap.size]? = some (.cells (paintL q0 q1 q2 q3 q4 q5 q6 q7 q8 q9 q10 q11 q12 q13) 40 (0, 0))) := Lib.hid (setRow_heap _ _ _ _ _ _ (heap_alloc_new w3 _))
      have B4 : Hid (Below w.heap.size w ((w3.alloc (.cells paintZ 40)).setRow w3.heap.size (paintL q0 q1 q2 q3 q4 q5 q6 q7 q8 q9 q10 q11 q12 q13))) := Lib.hid (below_setRow (bthen B3.out (below_alloc _ _)) B3.out.size _)
      obtain ⟨U, hU⟩ : ∃ U, U = w3.heap.size := ⟨_, rfl⟩
      obtain ⟨w4, hw4⟩ : ∃ w4, w4 = (w3.alloc (.cells paintZ 40)).setRow w3.heap.size (paintL q0 q1 q2 q3 q4 q5 q6 q7 q8 q9 q10 q11 q12 q13) := ⟨_, rfl⟩
      rw [← hw4] at G4 U4 B4 ⊢
      rw [← hU] at U4 ⊢
      clear hw4 hU
      obtain ⟨l40, hs40⟩ := Try.struct40
      have HS40 := Lib.hid hs40
      clear hs40
      go_wp2_with (first
        | (refine wpList_load_row (o := ⟨some 22, Op.load 40 (.tmp 5), _, _, _, _⟩) rfl 40 (.tmp 5) rfl V rfl 40 _ (0, 0) _ G4.out HS40.out rfl Try.size40 ?_)
        | (refine wpList_load_row (o := ⟨some 23, Op.load 40 (.tmp 7), _, _, _, _⟩) rfl 40 (.tmp 7) rfl U rfl 40 _ (0, 0) _ U4.out HS40.out rfl Try.size40 ?_))
      refine (psame10 q0 q1 q2 q3 q4 q5 q6 q7 q8 q9 q10 q11 q12 q13 w4).mono ?_
      rintro e w5 ⟨rfl, hb5⟩
      have B5 := Lib.hid (bthen B4.out hb5)
      clear hb5
      go_wp2_with fail
      refine (lives11 w5).mono ?_
      rintro e w6 ⟨rfl, hb6⟩
      have B6 := Lib.hid (bthen B5.out hb6)
      clear hb6
      go_wp2_with fail
      go_ret
      exact ⟨rfl, B6.out⟩
    · -- then the alloc
      go_simp
      obtain ⟨V, hV⟩ : ∃ V, V = v1.heap.size := ⟨_, rfl⟩
      obtain ⟨va, hva⟩ : ∃ va, va = v1.alloc (.cells paintZ 40) := ⟨_, rfl⟩
      have GA : Hid (va.heap[V]? = some (.cells paintZ 40 (0, 0))) := Lib.hid (by rw [hva, hV]; exact heap_alloc_new v1 _)
      have VL : Hid (w1.heap.size ≤ V) := Lib.hid (by rw [hV]; exact BV.out.size)
      have XV : Hid (X < V) := Lib.hid (by rw [hV]; exact II.out.lt)
      have bz : Below v1.heap.size v1 va := by rw [hva]; exact below_alloc _ _
      have xa := (bz.block A (Nat.lt_of_lt_of_le (by rw [S1.out]; omega) BV.out.size)).trans hSw.1
      have ya := (bz.block (A + 1) (Nat.lt_of_lt_of_le (by rw [S1.out]; omega) BV.out.size)).trans hSw.2
      have BW := Lib.hid (bthen BV.out bz)
      have II := Lib.hid (II.out.later bz)
      have VA : Hid (V < va.heap.size) := Lib.hid (Array.getElem?_eq_some_iff.1 GA.out).1
      rw [← hva, ← hV]
      clear hva hV bz
      refine hKK.out _ _ ⟨xa, ya⟩ (fun hSw => ?_)
      clear hKK KK
      (try simp only [Act.put, List.setIfInBounds_toArray, List.set_cons_zero, List.set_cons_succ, List.getElem_toArray, List.getElem_cons_succ, List.getElem_cons_zero])
      refine wpAnyH_ready (rs := [3]) (by kernel_rfl) (by simp) ?_
      refine AllReadyH.cons rfl (fun KK hKK => ?_) AllReadyH.nil
      go_simp
      refine (paintx_any S X pl k0 k1 k2 k3 x op (va) (.inl ⟨D, II.out⟩) OK.out).mono ?_
      rintro e v2 ⟨hf, ha, P, er, hp, rfl⟩
      obtain ⟨q0, q1, q2, q3, q4, q5, q6, q7, q8, q9, q10, q11, q12, q13, rfl⟩ := hp.form
      have PI := Lib.hid hp
      have F2 := Lib.hid hf
      have xa := (hf.block A (Nat.lt_of_lt_of_le (by rw [S1.out]; omega) BW.out.size) (by have := HX.out; rw [S1.out] at this; omega)).trans hSw.1
      have ya := (hf.block (A + 1) (Nat.lt_of_lt_of_le (by rw [S1.out]; omega) BW.out.size) (by have := HX.out; rw [S1.out] at this; omega)).trans hSw.2
      have BZ : Hid (Below w.heap.size w v2) := Lib.hid ((bthen B1.out BW.out).trans (hf.below (Nat.le_trans B1.out.size HX.out) (bthen B1.out BW.out).size))
      clear ha hp
      have GZ : Hid (v2.heap[V]? = some (.cells paintZ 40 (0, 0))) := Lib.hid ((hf.block V VA.out (by have := XV.out; omega)).trans GA.out)
      clear hf
      refine hKK.out _ _ ⟨xa, ya⟩ (fun hSw => ?_)
      clear hKK KK
      (try simp only [Act.put, List.setIfInBounds_toArray, List.set_cons_zero, List.set_cons_succ, List.getElem_toArray, List.getElem_cons_succ, List.getElem_cons_zero])
      refine wpAnyH_take (i := 4) (v := ?_) rfl (by kernel_rfl) (by kernel_rfl) (by kernel_rfl) (fun _ _ _ h => h) (Or.inl ⟨by rfl, ?_⟩) hSw ?_
      rotate_left
      · (intro wS hSx; go_simp)
        all_goals with_reducible rfl
      (try simp only [Act.put, List.setIfInBounds_toArray, List.set_cons_zero, List.set_cons_succ, List.getElem_toArray, List.getElem_cons_succ, List.getElem_cons_zero])
      refine wpAnyH_take (i := 5) (v := ?_) rfl (by kernel_rfl) (by kernel_rfl) (by kernel_rfl) (fun _ _ _ h => h) (Or.inl ⟨by rfl, ?_⟩) hSw ?_
      rotate_left
      · (intro wS hSx; go_simp)
        all_goals with_reducible rfl
      (try simp only [Act.put, List.setIfInBounds_toArray, List.set_cons_zero, List.set_cons_succ, List.getElem_toArray, List.getElem_cons_succ, List.getElem_cons_zero])
      refine wpAnyH_take (i := 6) (v := ?_) rfl (by kernel_rfl) (by kernel_rfl) (by kernel_rfl) (fun _ _ _ h => h) (Or.inl ⟨by rfl, ?_⟩) hSw ?_
      rotate_left
      · (intro wS hSx; go_simp)
        all_goals with_reducible rfl
      (try simp only [Act.put, List.setIfInBounds_toArray, List.set_cons_zero, List.set_cons_succ, List.getElem_toArray, List.getElem_cons_succ, List.getElem_cons_zero])
      obtain ⟨vz, hvz⟩ : ∃ vz, vz = v2 := ⟨_, rfl⟩
      rw [← hvz] at GZ BZ hSw ⊢
      clear hvz F2 BV BW GA XV VA
      refine wpAnyH_ready (rs := [8]) (by kernel_rfl) (by simp) ?_
      refine AllReadyH.cons rfl (fun KK hKK => ?_) AllReadyH.nil
      refine step_store_row rfl 40 (.tmp 5) (.tmp 14) rfl V (paintL q0 q1 q2 q3 q4 q5 q6 q7 q8 q9 q10 q11 q12 q13) rfl rfl 40 paintZ GZ.out Try.size40 rfl (paintL_one _ _ _ _ _ _ _ _ _ _ _ _ _ _) ?_
      have xa := (setRow_other vz V A (paintL q0 q1 q2 q3 q4 q5 q6 q7 q8 q9 q10 q11 q12 q13) (by have := VL.out; rw [S1.out] at this; omega)).trans hSw.1
      have ya := (setRow_other vz V (A + 1) (paintL q0 q1 q2 q3 q4 q5 q6 q7 q8 q9 q10 q11 q12 q13) (by have := VL.out; rw [S1.out] at this; omega)).trans hSw.2
      have GF := Lib.hid (setRow_heap vz V _ (paintL q0 q1 q2 q3 q4 q5 q6 q7 q8 q9 q10 q11 q12 q13) 40 (0, 0) GZ.out)
      have BF := Lib.hid (below_setRow BZ.out (Nat.le_trans B1.out.size VL.out) (paintL q0 q1 q2 q3 q4 q5 q6 q7 q8 q9 q10 q11 q12 q13))
      obtain ⟨wf, hwf⟩ : ∃ wf, wf = vz.setRow V (paintL q0 q1 q2 q3 q4 q5 q6 q7 q8 q9 q10 q11 q12 q13) := ⟨_, rfl⟩
      rw [← hwf] at xa ya GF BF ⊢
      clear hwf GZ BZ
      refine hKK.out _ _ ⟨xa, ya⟩ (fun hSw => ?_)
      clear hKK KK
      (try simp only [Act.put, List.getElem_toArray, List.getElem_cons_succ, List.getElem_cons_zero])
      refine wpAnyH_ready (rs := [9]) (by kernel_rfl) (by simp) ?_
      refine AllReadyH.cons rfl (fun KK hKK => ?_) AllReadyH.nil
      go_simp
      have xa := hSw.1
      have ya := hSw.2
      refine hKK.out _ _ ⟨xa, ya⟩ (fun hSw => ?_)
      clear hKK KK
      (try simp only [Act.put, List.setIfInBounds_toArray, List.set_cons_zero, List.set_cons_succ, List.getElem_toArray, List.getElem_cons_succ, List.getElem_cons_zero])
      refine wpAnyH_done (by kernel_rfl) ?_ _
      have GF2 := hSw.1
      have GF3 := hSw.2
      have XF := Lib.hid GF2
      have YF := Lib.hid GF3
      clear GF2 GF3 hSw
      as_aux_lemma =>
      go_upto_region 2 with (fail)
      go_wp2_with (first
        | (refine wpList_load_row (o := ⟨some 17, Op.load 31 (.tmp 2), _, _, _, _⟩) rfl 31 (.tmp 2) rfl A rfl 31 _ (0, 0) _ XF.out HS31.out rfl Try.size31 ?_)
        | (refine wpList_load_row (o := ⟨some 18, Op.load 33 (.tmp 3), _, _, _, _⟩) rfl 33 (.tmp 3) rfl (A + 1) rfl 33 _ (0, 0) _ YF.out HS33.out rfl Try.size33 ?_))
      refine (RP.out wf BF.out).mono ?_
      rintro e w3 ⟨hb3, P', er', hp', rfl⟩
      obtain ⟨rfl, rfl⟩ := PI.out.same hp'
      have VF : Hid (V < wf.heap.size) := Lib.hid (Array.getElem?_eq_some_iff.1 GF.out).1
      have G3 : Hid (w3.heap[V]? = some (.cells (paintL q0 q1 q2 q3 q4 q5 q6 q7 q8 q9 q10 q11 q12 q13) 40 (0, 0))) := Lib.hid ((hb3.block V VF.out).trans GF.out)
      have V3 : Hid (V < w3.heap.size) := Lib.hid (Nat.lt_of_lt_of_le VF.out hb3.size)
      have B3 := Lib.hid (bthen BF.out hb3)
      clear hb3 hp'
      go_upto_region 3 with (refine wpList_store_row (o := ⟨none, Op.store 40 (.tmp 7) (.tmp 20), _, _, _, _⟩) (w := w3.alloc (.cells paintZ 40)) rfl 40 (.tmp 7) (.tmp 20) rfl w3.heap.size (paintL q0 q1 q2 q3 q4 q5 q6 q7 q8 q9 q10 q11 q12 q13) rfl rfl 40 paintZ (heap_alloc_new w3 _) Try.size40 rfl (paintL_one _ _ _ _ _ _ _ _ _ _ _ _ _ _) ?_)
      have G4 : Hid (((w3.alloc (.cells paintZ 40)).setRow w3.heap.size (paintL q0 q1 q2 q3 q4 q5 q6 q7 q8 q9 q10 q11 q12 q13)).heap[V]? = some (.cells (paintL q0 q1 q2 q3 q4 q5 q6 q7 q8 q9 q10 q11 q12 q13) 40 (0, 0))) := Lib.hid ((setRow_other _ _ V _ (by have := V3.out; omega)).trans ((heap_alloc_old w3 _ V3.out).trans G3.out))
      have U4 : Hid (((w3.alloc (.cells paintZ 40)).setRow w3.heap.size (paintL q0 q1 q2 q3 q4 q5 q6 q7 q8 q9 q10 q11 q12 q13)).heap[w3.heap.size]? = some (.cells (paintL q0 q1 q2 q3 q4 q5 q6 q7 q8 q9 q10 q11 q12 q13) 40 (0, 0))) := Lib.hid (setRow_heap _ _ _ _ _ _ (heap_alloc_new w3 _))
      have B4 : Hid (Below w.heap.size w ((w3.alloc (.cells paintZ 40)).setRow w3.heap.size (paintL q0 q1 q2 q3 q4 q5 q6 q7 q8 q9 q10 q11 q12 q13))) := Lib.hid (below_setRow (bthen B3.out (below_alloc _ _)) B3.out.size _)
      obtain ⟨U, hU⟩ : ∃ U, U = w3.heap.size := ⟨_, rfl⟩
      obtain ⟨w4, hw4⟩ : ∃ w4, w4 = (w3.alloc (.cells paintZ 40)).setRow w3.heap.size (paintL q0 q1 q2 q3 q4 q5 q6 q7 q8 q9 q10 q11 q12 q13) := ⟨_, rfl⟩
      rw [← hw4] at G4 U4 B4 ⊢
      rw [← hU] at U4 ⊢
      clear hw4 hU
      obtain ⟨l40, hs40⟩ := Try.struct40
      have HS40 := Lib.hid hs40
      clear hs40
      go_wp2_with (first
        | (refine wpList_load_row (o := ⟨some 22, Op.load 40 (.tmp 5), _, _, _, _⟩) rfl 40 (.tmp 5) rfl V rfl 40 _ (0, 0) _ G4.out HS40.out rfl Try.size40 ?_)
        | (refine wpList_load_row (o := ⟨some 23, Op.load 40 (.tmp 7), _, _, _, _⟩) rfl 40 (.tmp 7) rfl U rfl 40 _ (0, 0) _ U4.out HS40.out rfl Try.size40 ?_))
      refine (psame10 q0 q1 q2 q3 q4 q5 q6 q7 q8 q9 q10 q11 q12 q13 w4).mono ?_
      rintro e w5 ⟨rfl, hb5⟩
      have B5 := Lib.hid (bthen B4.out hb5)
      clear hb5
      go_wp2_with fail
      refine (lives11 w5).mono ?_
      rintro e w6 ⟨rfl, hb6⟩
      have B6 := Lib.hid (bthen B5.out hb6)
      clear hb6
      go_wp2_with fail
      go_ret
      exact ⟨rfl, B6.out⟩
  · -- the alloc first
    go_simp
    obtain ⟨V, hV⟩ : ∃ V, V = w1.heap.size := ⟨_, rfl⟩
    obtain ⟨va, hva⟩ : ∃ va, va = (w1.alloc (.cells paintZ 40)).drew := ⟨_, rfl⟩
    have GA : Hid (va.heap[V]? = some (.cells paintZ 40 (0, 0))) := Lib.hid (by rw [hva, hV]; exact heap_alloc_new w1 _)
    have VL : Hid (w1.heap.size ≤ V) := Lib.hid (by rw [hV]; exact Nat.le_refl _)
    have bz : Below w1.heap.size w1 va := by rw [hva]; exact (below_alloc _ _).drew
    have xa := (bz.block A (by rw [S1.out]; omega)).trans X1.out
    have ya := (bz.block (A + 1) (by rw [S1.out]; omega)).trans Y1.out
    have VA : Hid (V < va.heap.size) := Lib.hid (Array.getElem?_eq_some_iff.1 GA.out).1
    have BA := Lib.hid bz
    rw [← hva, ← hV]
    clear hva hV bz
    refine hKK.out _ _ ⟨xa, ya⟩ (fun hSw => ?_)
    clear hKK KK
    (try simp only [Act.put, List.setIfInBounds_toArray, List.set_cons_zero, List.set_cons_succ, List.getElem_toArray, List.getElem_cons_succ, List.getElem_cons_zero])
    refine wpAnyH_ready (rs := [1]) (by kernel_rfl) (by simp) ?_
    refine AllReadyH.cons rfl (fun KK hKK => ?_) AllReadyH.nil
    go_simp
    refine (NW.out (va) (BA.out)).mono ?_
    intro e v1 hn
    obtain ⟨X, rfl, hX, hb, D, hI⟩ := idx_of_new hn
    have bv : Below w1.heap.size w1 v1 := (BA.out).trans (hb.mono (BA.out).size)
    have BV := Lib.hid bv
    have II := Lib.hid hI
    have HX : Hid (w1.heap.size ≤ X) := Lib.hid (Nat.le_trans (BA.out).size hX)
    have xa := (bv.block A (by rw [S1.out]; omega)).trans X1.out
    have ya := (bv.block (A + 1) (by rw [S1.out]; omega)).trans Y1.out
    have GB : Hid (v1.heap[V]? = some (.cells paintZ 40 (0, 0))) := Lib.hid ((hb.block V VA.out).trans GA.out)
    have XV : Hid (V < X) := Lib.hid (Nat.lt_of_lt_of_le VA.out hX)
    have VB : Hid (V < v1.heap.size) := Lib.hid (Nat.lt_of_lt_of_le VA.out hb.size)
    clear hn hX hb hI bv
    refine hKK.out _ _ ⟨xa, ya⟩ (fun hSw => ?_)
    clear hKK KK
    (try simp only [Act.put, List.setIfInBounds_toArray, List.set_cons_zero, List.set_cons_succ, List.getElem_toArray, List.getElem_cons_succ, List.getElem_cons_zero])
    refine wpAnyH_ready (rs := [3]) (by kernel_rfl) (by simp) ?_
    refine AllReadyH.cons rfl (fun KK hKK => ?_) AllReadyH.nil
    have BW := BV
    go_simp
    refine (paintx_any S X pl k0 k1 k2 k3 x op (v1) (.inl ⟨D, II.out⟩) OK.out).mono ?_
    rintro e v2 ⟨hf, ha, P, er, hp, rfl⟩
    obtain ⟨q0, q1, q2, q3, q4, q5, q6, q7, q8, q9, q10, q11, q12, q13, rfl⟩ := hp.form
    have PI := Lib.hid hp
    have F2 := Lib.hid hf
    have xa := (hf.block A (Nat.lt_of_lt_of_le (by rw [S1.out]; omega) BW.out.size) (by have := HX.out; rw [S1.out] at this; omega)).trans hSw.1
    have ya := (hf.block (A + 1) (Nat.lt_of_lt_of_le (by rw [S1.out]; omega) BW.out.size) (by have := HX.out; rw [S1.out] at this; omega)).trans hSw.2
    have BZ : Hid (Below w.heap.size w v2) := Lib.hid ((bthen B1.out BW.out).trans (hf.below (Nat.le_trans B1.out.size HX.out) (bthen B1.out BW.out).size))
    clear ha hp
    have GZ : Hid (v2.heap[V]? = some (.cells paintZ 40 (0, 0))) := Lib.hid ((hf.block V VB.out (by have := XV.out; omega)).trans GB.out)
    clear hf
    refine hKK.out _ _ ⟨xa, ya⟩ (fun hSw => ?_)
    clear hKK KK
    (try simp only [Act.put, List.setIfInBounds_toArray, List.set_cons_zero, List.set_cons_succ, List.getElem_toArray, List.getElem_cons_succ, List.getElem_cons_zero])
    refine wpAnyH_take (i := 4) (v := ?_) rfl (by kernel_rfl) (by kernel_rfl) (by kernel_rfl) (fun _ _ _ h => h) (Or.inl ⟨by rfl, ?_⟩) hSw ?_
    rotate_left
    · (intro wS hSx; go_simp)
      all_goals with_reducible rfl
    (try simp only [Act.put, List.setIfInBounds_toArray, List.set_cons_zero, List.set_cons_succ, List.getElem_toArray, List.getElem_cons_succ, List.getElem_cons_zero])
    refine wpAnyH_take (i := 5) (v := ?_) rfl (by kernel_rfl) (by kernel_rfl) (by kernel_rfl) (fun _ _ _ h => h) (Or.inl ⟨by rfl, ?_⟩) hSw ?_
    rotate_left
    · (intro wS hSx; go_simp)
      all_goals with_reducible rfl
    (try simp only [Act.put, List.setIfInBounds_toArray, List.set_cons_zero, List.set_cons_succ, List.getElem_toArray, List.getElem_cons_succ, List.getElem_cons_zero])
    refine wpAnyH_take (i := 6) (v := ?_) rfl (by kernel_rfl) (by kernel_rfl) (by kernel_rfl) (fun _ _ _ h => h) (Or.inl ⟨by rfl, ?_⟩) hSw ?_
    rotate_left
    · (intro wS hSx; go_simp)
      all_goals with_reducible rfl
    (try simp only [Act.put, List.setIfInBounds_toArray, List.set_cons_zero, List.set_cons_succ, List.getElem_toArray, List.getElem_cons_succ, List.getElem_cons_zero])
    obtain ⟨vz, hvz⟩ : ∃ vz, vz = v2 := ⟨_, rfl⟩
    rw [← hvz] at GZ BZ hSw ⊢
    clear hvz F2 BV BW GA XV VA BA GB VB
    refine wpAnyH_ready (rs := [8]) (by kernel_rfl) (by simp) ?_
    refine AllReadyH.cons rfl (fun KK hKK => ?_) AllReadyH.nil
    refine step_store_row rfl 40 (.tmp 5) (.tmp 14) rfl V (paintL q0 q1 q2 q3 q4 q5 q6 q7 q8 q9 q10 q11 q12 q13) rfl rfl 40 paintZ GZ.out Try.size40 rfl (paintL_one _ _ _ _ _ _ _ _ _ _ _ _ _ _) ?_
    have xa := (setRow_other vz V A (paintL q0 q1 q2 q3 q4 q5 q6 q7 q8 q9 q10 q11 q12 q13) (by have := VL.out; rw [S1.out] at this; omega)).trans hSw.1
    have ya := (setRow_other vz V (A + 1) (paintL q0 q1 q2 q3 q4 q5 q6 q7 q8 q9 q10 q11 q12 q13) (by have := VL.out; rw [S1.out] at this; omega)).trans hSw.2
    have GF := Lib.hid (setRow_heap vz V _ (paintL q0 q1 q2 q3 q4 q5 q6 q7 q8 q9 q10 q11 q12 q13) 40 (0, 0) GZ.out)
    have BF := Lib.hid (below_setRow BZ.out (Nat.le_trans B1.out.size VL.out) (paintL q0 q1 q2 q3 q4 q5 q6 q7 q8 q9 q10 q11 q12 q13))
    obtain ⟨wf, hwf⟩ : ∃ wf, wf = vz.setRow V (paintL q0 q1 q2 q3 q4 q5 q6 q7 q8 q9 q10 q11 q12 q13) := ⟨_, rfl⟩
    rw [← hwf] at xa ya GF BF ⊢
    clear hwf GZ BZ
    refine hKK.out _ _ ⟨xa, ya⟩ (fun hSw => ?_)
    clear hKK KK
    (try simp only [Act.put, List.getElem_toArray, List.getElem_cons_succ, List.getElem_cons_zero])
    refine wpAnyH_ready (rs := [9]) (by kernel_rfl) (by simp) ?_
    refine AllReadyH.cons rfl (fun KK hKK => ?_) AllReadyH.nil
    go_simp
    have xa := hSw.1
    have ya := hSw.2
    refine hKK.out _ _ ⟨xa, ya⟩ (fun hSw => ?_)
    clear hKK KK
    (try simp only [Act.put, List.setIfInBounds_toArray, List.set_cons_zero, List.set_cons_succ, List.getElem_toArray, List.getElem_cons_succ, List.getElem_cons_zero])
    refine wpAnyH_done (by kernel_rfl) ?_ _
    have GF2 := hSw.1
    have GF3 := hSw.2
    have XF := Lib.hid GF2
    have YF := Lib.hid GF3
    clear GF2 GF3 hSw
    as_aux_lemma =>
    go_upto_region 2 with (fail)
    go_wp2_with (first
      | (refine wpList_load_row (o := ⟨some 17, Op.load 31 (.tmp 2), _, _, _, _⟩) rfl 31 (.tmp 2) rfl A rfl 31 _ (0, 0) _ XF.out HS31.out rfl Try.size31 ?_)
      | (refine wpList_load_row (o := ⟨some 18, Op.load 33 (.tmp 3), _, _, _, _⟩) rfl 33 (.tmp 3) rfl (A + 1) rfl 33 _ (0, 0) _ YF.out HS33.out rfl Try.size33 ?_))
    refine (RP.out wf BF.out).mono ?_
    rintro e w3 ⟨hb3, P', er', hp', rfl⟩
    obtain ⟨rfl, rfl⟩ := PI.out.same hp'
    have VF : Hid (V < wf.heap.size) := Lib.hid (Array.getElem?_eq_some_iff.1 GF.out).1
    have G3 : Hid (w3.heap[V]? = some (.cells (paintL q0 q1 q2 q3 q4 q5 q6 q7 q8 q9 q10 q11 q12 q13) 40 (0, 0))) := Lib.hid ((hb3.block V VF.out).trans GF.out)
    have V3 : Hid (V < w3.heap.size) := Lib.hid (Nat.lt_of_lt_of_le VF.out hb3.size)
    have B3 := Lib.hid (bthen BF.out hb3)
    clear hb3 hp'
    go_upto_region 3 with (refine wpList_store_row (o := ⟨none, Op.store 40 (.tmp 7) (.tmp 20), _, _, _, _⟩) (w := w3.alloc (.cells paintZ 40)) rfl 40 (.tmp 7) (.tmp 20) rfl w3.heap.size (paintL q0 q1 q2 q3 q4 q5 q6 q7 q8 q9 q10 q11 q12 q13) rfl rfl 40 paintZ (heap_alloc_new w3 _) Try.size40 rfl (paintL_one _ _ _ _ _ _ _ _ _ _ _ _ _ _) ?_)
    have G4 : Hid (((w3.alloc (.cells paintZ 40)).setRow w3.heap.size (paintL q0 q1 q2 q3 q4 q5 q6 q7 q8 q9 q10 q11 q12 q13)).heap[V]? = some (.cells (paintL q0 q1 q2 q3 q4 q5 q6 q7 q8 q9 q10 q11 q12 q13) 40 (0, 0))) := Lib.hid ((setRow_other _ _ V _ (by have := V3.out; omega)).trans ((heap_alloc_old w3 _ V3.out).trans G3.out))
    have U4 : Hid (((w3.alloc (.cells paintZ 40)).setRow w3.heap.size (paintL q0 q1 q2 q3 q4 q5 q6 q7 q8 q9 q10 q11 q12 q13)).heap[w3.heap.size]? = some (.cells (paintL q0 q1 q2 q3 q4 q5 q6 q7 q8 q9 q10 q11 q12 q13) 40 (0, 0))) := Lib.hid (setRow_heap _ _ _ _ _ _ (heap_alloc_new w3 _))
    have B4 : Hid (Below w.heap.size w ((w3.alloc (.cells paintZ 40)).setRow w3.heap.size (paintL q0 q1 q2 q3 q4 q5 q6 q7 q8 q9 q10 q11 q12 q13))) := Lib.hid (below_setRow (bthen B3.out (below_alloc _ _)) B3.out.size _)
    obtain ⟨U, hU⟩ : ∃ U, U = w3.heap.size := ⟨_, rfl⟩
    obtain ⟨w4, hw4⟩ : ∃ w4, w4 = (w3.alloc (.cells paintZ 40)).setRow w3.heap.size (paintL q0 q1 q2 q3 q4 q5 q6 q7 q8 q9 q10 q11 q12 q13) := ⟨_, rfl⟩
    rw [← hw4] at G4 U4 B4 ⊢
    rw [← hU] at U4 ⊢
    clear hw4 hU
    obtain ⟨l40, hs40⟩ := Try.struct40
    have HS40 := Lib.hid hs40
    clear hs40
    go_wp2_with (first
      | (refine wpList_load_row (o := ⟨some 22, Op.load 40 (.tmp 5), _, _, _, _⟩) rfl 40 (.tmp 5) rfl V rfl 40 _ (0, 0) _ G4.out HS40.out rfl Try.size40 ?_)
      | (refine wpList_load_row (o := ⟨some 23, Op.load 40 (.tmp 7), _, _, _, _⟩) rfl 40 (.tmp 7) rfl U rfl 40 _ (0, 0) _ U4.out HS40.out rfl Try.size40 ?_))
    refine (psame10 q0 q1 q2 q3 q4 q5 q6 q7 q8 q9 q10 q11 q12 q13 w4).mono ?_
    rintro e w5 ⟨rfl, hb5⟩
    have B5 := Lib.hid (bthen B4.out hb5)
    clear hb5
    go_wp2_with fail
    refine (lives11 w5).mono ?_
    rintro e w6 ⟨rfl, hb6⟩
    have B6 := Lib.hid (bthen B5.out hb6)
    clear hb6
    go_wp2_with fail
    go_ret
    exact ⟨rfl, B6.out⟩
end Go.Proofs.Ytkhdielfnphheaa
