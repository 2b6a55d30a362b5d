/- The walk of IndexOnce. -/
import Derived.Test.YtkhdielfnphheaaFns
import Derived.Test.YtkhdielfnphheaaAsk4
import Derived.Test.YtkhdielfnphheaaRef3
namespace Go.Proofs.Ytkhdielfnphheaa
open Go.RowKit

theorem row_cell {w : World} {g off n c j : Nat} {f : Nat → Nat → Value} (h : Row w (.slice (some ⟨g, off, none⟩) n c) n 1 f) (hj : j < n) : w.cell? ⟨g, off + j, none⟩ = some (f j 0) := by
  obtain ⟨a, cap, he, _, hc⟩ := h
  obtain ⟨g', off', ha, hp⟩ := hc (by omega)
  obtain ⟨rfl, rfl⟩ : some (⟨g, off, none⟩ : Addr) = a ∧ c = cap := by simpa using he
  obtain ⟨rfl, rfl⟩ : g = g' ∧ off = off' := by simpa using ha
  have := hp j 0 hj (by omega)
  rwa [show off + j * 1 + 0 = off + j by omega] at this
theorem RamIs.okb {S : Sc} {x at_ : Int} {rv : Nat → Int} {ok : Bool} (h : RamIs S x rv ok at_) : (0 ≤ at_ ∧ ok = true) ∨ (¬ 0 ≤ at_ ∧ ok = false) := by
  rcases h.2 with ⟨h1, h2, _⟩ | ⟨p, _, h1, h2, _⟩
  · exact .inr ⟨by omega, h2⟩
  · exact .inl ⟨by omega, h2⟩
theorem PicIs.okb {S : Sc} {x a b at_ : Int} {q : Option Addr} {n c : Nat} {ok : Bool} {w : World} (h : PicIs S x a b q n c ok at_ w) : (0 ≤ at_ ∧ ok = true) ∨ (¬ 0 ≤ at_ ∧ ok = false) := by
  rcases h.2 with ⟨h1, h2, _⟩ | ⟨p, _, h1, h2, _⟩
  · exact .inr ⟨by omega, h2⟩
  · exact .inl ⟨by omega, h2⟩
theorem GlyIs.okb {S : Sc} {x a b at_ : Int} {q : Option Addr} {n c : Nat} {ok : Bool} {w : World} (h : GlyIs S x a b q n c ok at_ w) : (0 ≤ at_ ∧ ok = true) ∨ (¬ 0 ≤ at_ ∧ ok = false) := by
  rcases h.2 with ⟨h1, h2, _⟩ | ⟨p, _, h1, h2, _⟩
  · exact .inr ⟨by omega, h2⟩
  · exact .inl ⟨by omega, h2⟩
set_option maxRecDepth 100000 in
set_option maxHeartbeats 6400000 in
theorem once_any (S : Sc) (s0 s1 s2 s3 s4 s5 s6 hd mt rm gl pc it : Value) (pi : Option Addr) (n ci : Nat) (F : Nat → Int) (w : World) (hD : DataV S rm gl pc w) (hH : Row w hd S.nh 1 S.H) (hI : Row w (.slice pi n ci) n 1 (fun j _ => .int .i64 (F j))) (ok : ScOk S) (hn : n * 8 ≤ 140737488355328) :
    Calls Try.prog 5 #[.agg #[s0, s1, s2, s3, s4, s5, s6, hd, mt, rm, gl, pc, it], .slice pi n ci] w (RetPost (.bool true) w) := by
  obtain ⟨w1, hw1⟩ : ∃ w1, w1 = w.alloc (.cells #[s0, s1, s2, s3, s4, s5, s6, hd, mt, rm, gl, pc, it] 31) := ⟨_, rfl⟩
  obtain ⟨A, hA⟩ : ∃ A, A = w.heap.size := ⟨_, rfl⟩
  have B1 : Hid (Below w.heap.size w w1) := Lib.hid (by rw [hw1]; exact below_alloc _ _)
  have X1 : Hid (w1.heap[A]? = some (.cells #[s0, s1, s2, s3, s4, s5, s6, hd, mt, rm, gl, pc, it] 31 (0, 0))) := Lib.hid (by rw [hw1, hA]; exact heap_alloc_new w _)
  have S1 : Hid (w1.heap.size = A + 1) := Lib.hid (by rw [hw1, hA]; simp)
  have NW := Lib.hid (new_any S s0 s1 s2 s3 s4 s5 s6 hd mt rm gl pc it w1 (hD.later B1.out) (hH.later B1.out) ok)
  have WR := Lib.hid (fun (V : World) (hb : Below w.heap.size w V) => rwrong14 S s0 s1 s2 s3 s4 s5 s6 hd mt rm gl pc it V (hD.later hb) (hH.later hb) ok)
  have RR := Lib.hid (fun (z : Int) (V : World) (hb : Below w.heap.size w V) => rramp17 S s0 s1 s2 s3 s4 s5 s6 hd mt it rm gl pc z V (hD.later hb) ok)
  have RPc := Lib.hid (fun (z : Int) (V : World) (hb : Below w.heap.size w V) => rpic19 S s0 s1 s2 s3 s4 s5 s6 hd mt it rm gl pc z V (hD.later hb) ok)
  have RG := Lib.hid (fun (z : Int) (V : World) (hb : Below w.heap.size w V) => rfind21 S rm gl pc z V (hD.later hb) ok)
  have WI := Lib.hid (fun (X : Nat) (V : World) (h : IdxF S X V ∨ IdxA S X V) => wrong_any S X V h ok)
  have IDS := Lib.hid (fun (V : World) (hb : Below w.heap.size w V) => hI.later hb)
  have OK := Lib.hid ok
  have HW := Lib.hid (And.intro hw1 hA)
  have nb : n ≤ 17592186044416 := by omega
  clear hw1 hA hD hH ok hI hn
  obtain ⟨m, hm⟩ : ∃ m, m = wrongS S := ⟨_, rfl⟩
  simp only [← hm] at WR WI
  clear hm
  obtain ⟨l31, hs31⟩ := Try.struct31
  have HS31 := Lib.hid hs31
  clear hs31
  go_enter Try.func5, Try.ntmps5
  go_upto_region 1 with (fail)
  rw [← HW.out.2, ← HW.out.1]
  go_wp2_with (refine wpList_load_row (o := ⟨some 10, Op.load 31 (.tmp 2), _, _, _, _⟩) rfl 31 (.tmp 2) rfl A rfl 31 _ (0, 0) _ X1.out HS31.out rfl Try.size31 ?_)
  refine NW.out.mono ?_
  intro e w2 hn
  obtain ⟨X, rfl, hX, hb, hI⟩ := idx_of_new hn
  have I2 := Lib.hid hI
  have B2 := Lib.hid (bthen B1.out hb)
  have AX : Hid (A < X) := Lib.hid (by rw [S1.out] at hX; omega)
  have WX : Hid (w.heap.size ≤ X) := Lib.hid (Nat.le_trans B1.out.size hX)
  have X2 : Hid (w2.heap[A]? = some (.cells #[s0, s1, s2, s3, s4, s5, s6, hd, mt, rm, gl, pc, it] 31 (0, 0))) := Lib.hid ((hb.block A (by rw [S1.out]; omega)).trans X1.out)
  clear hn hX hb hI NW
  go_wp2_with fail
  refine (made_fresh S X w2 I2.out).mono ?_
  rintro e w3 ⟨rfl, hb3⟩
  have I3 : Hid (IdxF S X w3) := Lib.hid (I2.out.later hb3)
  have B3 := Lib.hid (bthen B2.out hb3)
  have X3 : Hid (w3.heap[A]? = some (.cells #[s0, s1, s2, s3, s4, s5, s6, hd, mt, rm, gl, pc, it] 31 (0, 0))) := Lib.hid ((hb3.block A (Array.getElem?_eq_some_iff.1 X2.out).1).trans X2.out)
  clear hb3 I2 B2 X2 X1
  go_wp2_with fail
  go_loopw [6] (fun i wr => ∃ k : Nat, i = .int .i64 k ∧ k ≤ n ∧ k ≤ 20 ∧ Hid (Below w.heap.size w wr) ∧ Hid (wr.heap[A]? = some (.cells #[s0, s1, s2, s3, s4, s5, s6, hd, mt, rm, gl, pc, it] 31 (0, 0))) ∧ Hid (IdxF S X wr ∨ IdxA S X wr)) (fun i _ => n - (intOf i).toNat)
  case atStart => exact ⟨0, rfl, by omega, by omega, B3, X3, Lib.hid (.inl I3.out)⟩
  case round =>
    obtain ⟨k, rfl, hk, hk20, hb, hx, hi⟩ := hrel
    by_cases hlt : k < n ∧ k < 20
    · obtain ⟨hkn, hk2⟩ := hlt
      have kI : (k : Int) < (n : Int) := by omega
      have kJ : (k : Int) < 20 := by omega
      have k0 : (0 : Int) ≤ (k : Int) := by omega
      obtain ⟨a, cap, he, hnn, hcell⟩ := IDS.out wr hb.out
      obtain ⟨g, off, rfl, hc3⟩ := hcell (by omega)
      obtain ⟨rfl, rfl⟩ : pi = some ⟨g, off, none⟩ ∧ ci = cap := by simpa using he
      have c0 : wr.cell? ⟨g, off + k, none⟩ = some (.int .i64 (F k)) := by have := hc3 k 0 hkn (by omega); rwa [show off + k * 1 + 0 = off + k by omega] at this
      obtain ⟨id, hid⟩ : ∃ id, id = F k := ⟨_, rfl⟩
      rw [← hid] at c0
      have HF := Lib.hid hid
      clear hc3 hcell hnn he hid
      obtain ⟨D, hD⟩ : ∃ D, IdxFD S X D wr ∨ IdxAD S X D wr := by
        rcases hi.out with ⟨D, h⟩ | ⟨D, h⟩
        · exact ⟨D, .inl h⟩
        · exact ⟨D, .inr h⟩
      have HD := Lib.hid hD
      clear hD
      rcases (show (k : Int) % 4 = 0 ∨ (k : Int) % 4 = 1 ∨ (k : Int) % 4 = 2 ∨ (k : Int) % 4 = 3 by omega) with r4 | r4 | r4 | r4
      · go_wp2_with fail
        refine (ramp_any S X D id wr HD.out OK.out).mono ?_
        intro e w4 hp
        obtain ⟨hf, hI, rv, okb, rfl, at1, hR⟩ := hp.is
        have HR := Lib.hid hR
        have B4 : Hid (Below w.heap.size w w4) := Lib.hid (hb.out.trans (hf.below WX.out hb.out.size))
        have I4 : Hid (IdxA S X w4) := Lib.hid hI
        have X4 : Hid (w4.heap[A]? = some (.cells #[s0, s1, s2, s3, s4, s5, s6, hd, mt, rm, gl, pc, it] 31 (0, 0))) := Lib.hid ((hf.block A (Array.getElem?_eq_some_iff.1 hx.out).1 (by have := AX.out; omega)).trans hx.out)
        have A4 : Hid (A < w4.heap.size) := Lib.hid (Array.getElem?_eq_some_iff.1 X4.out).1
        have c4 : w4.cell? ⟨g, off + k, none⟩ = some (.int .i64 (F k)) := row_cell (IDS.out w4 B4.out) hkn
        rw [← HF.out] at c4
        have x10 := (BxAt.of_heap X4.out).2.2 10 _ rfl
        clear hp hf hI hR c0 hx hi HD
        go_upto_region 13 with (fail)
        have CR := RR.out id w4.drew B4.out.drew
        rw [HR.out.1] at CR
        have CC := Lib.hid CR
        clear CR
        refine wp_region_held_drew (S := (fun w' => w'.heap[A]? = some (.cells #[s0, s1, s2, s3, s4, s5, s6, hd, mt, rm, gl, pc, it] 31 (0, 0)) ∧ w'.cell? ⟨g, off + k, none⟩ = some (.int .i64 id))) (by kernel_rfl) ⟨X4.out, c4⟩ (fun hSw => ?_)
        refine wpAnyH_take (i := 0) (v := ?_) rfl (by kernel_rfl) (by kernel_rfl) (by kernel_rfl) (fun _ _ _ h => h) (Or.inl ⟨by rfl, ?_⟩) hSw ?_
        rotate_left
        · (intro wS hSx; (try dsimp only at hSx); go_simp)
          all_goals with_reducible rfl
        (try simp only [Act.put, List.setIfInBounds_toArray, List.set_cons_zero, List.set_cons_succ, List.getElem_toArray, List.getElem_cons_zero])
        refine wpAnyH_take (i := 1) (v := .agg #[s0, s1, s2, s3, s4, s5, s6, hd, mt, rm, gl, pc, it]) rfl (by kernel_rfl) (by kernel_rfl) (by kernel_rfl) (fun _ _ _ h => h) (yields_row (by rfl) 31 (.tmp 2) rfl A rfl 31 _ (0, 0) _ (fun _ h => h.1) HS31.out rfl Try.size31) hSw ?_
        (try simp only [Act.put, List.setIfInBounds_toArray, List.set_cons_zero, List.set_cons_succ, List.getElem_toArray, List.getElem_cons_succ, List.getElem_cons_zero])
        refine wpAnyH_take (i := 2) (v := ?_) rfl (by kernel_rfl) (by kernel_rfl) (by kernel_rfl) (fun _ _ _ h => h) (Or.inl ⟨by rfl, ?_⟩) hSw ?_
        rotate_left
        · (intro wS hSx; (try dsimp only at hSx); go_simp)
          all_goals with_reducible rfl
        (try simp only [Act.put, List.setIfInBounds_toArray, List.set_cons_zero, List.set_cons_succ, List.getElem_toArray, List.getElem_cons_succ, List.getElem_cons_zero])
        refine wpAnyH_take (i := 3) (v := ?_) rfl (by kernel_rfl) (by kernel_rfl) (by kernel_rfl) (fun _ _ _ h => h) (Or.inl ⟨by rfl, ?_⟩) hSw ?_
        rotate_left
        · (intro wS hSx; (try dsimp only at hSx); go_simp)
          all_goals with_reducible rfl
        (try simp only [Act.put, List.setIfInBounds_toArray, List.set_cons_zero, List.set_cons_succ, List.getElem_toArray, List.getElem_cons_succ, List.getElem_cons_zero])
        refine wpAnyH_take (i := 4) (v := ?_) rfl (by kernel_rfl) (by kernel_rfl) (by kernel_rfl) (fun _ _ _ h => h) (Or.inl ⟨by rfl, ?_⟩) hSw ?_
        rotate_left
        · (intro wS hSx; (try dsimp only at hSx); go_simp)
          all_goals with_reducible rfl
        (try simp only [Act.put, List.setIfInBounds_toArray, List.set_cons_zero, List.set_cons_succ, List.getElem_toArray, List.getElem_cons_succ, List.getElem_cons_zero])
        refine wpAnyH_take (i := 5) (v := ?_) rfl (by kernel_rfl) (by kernel_rfl) (by kernel_rfl) (fun _ _ _ h => h) (Or.inl ⟨by rfl, ?_⟩) hSw ?_
        rotate_left
        · (intro wS hSx; (try dsimp only at hSx); go_simp)
          all_goals with_reducible rfl
        (try simp only [Act.put, List.setIfInBounds_toArray, List.set_cons_zero, List.set_cons_succ, List.getElem_toArray, List.getElem_cons_succ, List.getElem_cons_zero])
        refine wpAnyH_ready (rs := [6]) (by kernel_rfl) (by simp) ?_
        refine AllReadyH.cons rfl (fun KK hKK => ?_) AllReadyH.nil
        go_simp
        refine CC.out.mono ?_
        rintro e v2 ⟨rfl, hbd⟩
        have hb2 : Below w4.heap.size w4 v2 := bel_drew hbd
        refine hKK.out _ _ ⟨(hb2.block A A4.out).trans X4.out, cell_later hb2 c4⟩ (fun hSw => ?_)
        clear hKK KK CC hbd
        (try simp only [Act.put, List.setIfInBounds_toArray, List.set_cons_zero, List.set_cons_succ, List.getElem_toArray, List.getElem_cons_succ, List.getElem_cons_zero])
        rcases HR.out.okb with ⟨h0, rfl⟩ | ⟨h0, rfl⟩
        all_goals
          refine wpAnyH_take (i := 7) (v := ?_) rfl (by kernel_rfl) (by kernel_rfl) (by kernel_rfl) (fun _ _ _ h => h) (Or.inl ⟨by rfl, ?_⟩) hSw ?_
          rotate_left
          · (intro wS hSx; (try dsimp only at hSx); go_simp)
            all_goals with_reducible rfl
          (try simp only [Act.put, List.setIfInBounds_toArray, List.set_cons_zero, List.set_cons_succ, List.getElem_toArray, List.getElem_cons_succ, List.getElem_cons_zero])
          refine wpAnyH_take (i := 8) (v := ?_) rfl (by kernel_rfl) (by kernel_rfl) (by kernel_rfl) (fun _ _ _ h => h) (Or.inl ⟨by rfl, ?_⟩) hSw ?_
          rotate_left
          · (intro wS hSx; (try dsimp only at hSx); go_simp)
            all_goals with_reducible rfl
          (try simp only [Act.put, List.setIfInBounds_toArray, List.set_cons_zero, List.set_cons_succ, List.getElem_toArray, List.getElem_cons_succ, List.getElem_cons_zero])
          refine wpAnyH_ready (rs := [9]) (by kernel_rfl) (by simp) ?_
          refine AllReadyH.cons rfl (fun KK hKK => ?_) AllReadyH.nil
          go_simp
          refine hKK.out _ _ hSw (fun hSw => ?_)
          clear hKK KK
          (try simp only [Act.put, List.setIfInBounds_toArray, List.set_cons_zero, List.set_cons_succ, List.getElem_toArray, List.getElem_cons_succ, List.getElem_cons_zero])
          refine wpAnyH_done (by kernel_rfl) ?_ _
          clear hSw c4 x10
          have hbc := hb2
          have B5 := Lib.hid (bthen B4.out hbc)
          have I5 := Lib.hid (I4.out.later hbc)
          have X5 : Hid (v2.heap[A]? = some (.cells #[s0, s1, s2, s3, s4, s5, s6, hd, mt, rm, gl, pc, it] 31 (0, 0))) := Lib.hid ((hbc.block A A4.out).trans X4.out)
          have A5 : Hid (A < v2.heap.size) := Lib.hid (Array.getElem?_eq_some_iff.1 X5.out).1
          clear hbc hb2
          go_wp2_with fail
          refine (made_asked S X v2 I5.out).mono ?_
          rintro e w6 ⟨rfl, hb6⟩
          have B6 := Lib.hid (bthen B5.out hb6)
          have I6 := Lib.hid (I5.out.later hb6)
          have X6 : Hid (w6.heap[A]? = some (.cells #[s0, s1, s2, s3, s4, s5, s6, hd, mt, rm, gl, pc, it] 31 (0, 0))) := Lib.hid ((hb6.block A A5.out).trans X5.out)
          clear hb6
          go_wp2_with fail
          exact ⟨⟨k + 1, by go_num, by omega, by omega, B6, X6, Lib.hid (.inr I6.out)⟩, by (first | (simp [intOf]; done) | (simp [intOf]; omega) | (simp only [intOf]; omega))⟩
      · go_wp2_with fail
        refine (pic_any S X id wr hi.out OK.out).mono ?_
        intro e w4 hp
        obtain ⟨hf, hI, pa, pb, q, qn, qc, okb, at1, rfl, hR⟩ := hp.is
        have HR := Lib.hid hR
        have B4 : Hid (Below w.heap.size w w4) := Lib.hid (hb.out.trans (hf.below WX.out hb.out.size))
        have I4 : Hid (IdxA S X w4) := Lib.hid hI
        have X4 : Hid (w4.heap[A]? = some (.cells #[s0, s1, s2, s3, s4, s5, s6, hd, mt, rm, gl, pc, it] 31 (0, 0))) := Lib.hid ((hf.block A (Array.getElem?_eq_some_iff.1 hx.out).1 (by have := AX.out; omega)).trans hx.out)
        have A4 : Hid (A < w4.heap.size) := Lib.hid (Array.getElem?_eq_some_iff.1 X4.out).1
        have c4 : w4.cell? ⟨g, off + k, none⟩ = some (.int .i64 (F k)) := row_cell (IDS.out w4 B4.out) hkn
        rw [← HF.out] at c4
        have x10 := (BxAt.of_heap X4.out).2.2 10 _ rfl
        clear hp hf hI hR c0 hx hi HD
        go_upto_region 16 with (fail)
        have CR := RPc.out id w4.drew B4.out.drew
        rw [HR.out.1] at CR
        have CC := Lib.hid CR
        clear CR
        refine wp_region_held_drew (S := (fun w' => w'.heap[A]? = some (.cells #[s0, s1, s2, s3, s4, s5, s6, hd, mt, rm, gl, pc, it] 31 (0, 0)) ∧ w'.cell? ⟨g, off + k, none⟩ = some (.int .i64 id))) (by kernel_rfl) ⟨X4.out, c4⟩ (fun hSw => ?_)
        refine wpAnyH_take (i := 0) (v := ?_) rfl (by kernel_rfl) (by kernel_rfl) (by kernel_rfl) (fun _ _ _ h => h) (Or.inl ⟨by rfl, ?_⟩) hSw ?_
        rotate_left
        · (intro wS hSx; (try dsimp only at hSx); go_simp)
          all_goals with_reducible rfl
        (try simp only [Act.put, List.setIfInBounds_toArray, List.set_cons_zero, List.set_cons_succ, List.getElem_toArray, List.getElem_cons_zero])
        refine wpAnyH_take (i := 1) (v := .agg #[s0, s1, s2, s3, s4, s5, s6, hd, mt, rm, gl, pc, it]) rfl (by kernel_rfl) (by kernel_rfl) (by kernel_rfl) (fun _ _ _ h => h) (yields_row (by rfl) 31 (.tmp 2) rfl A rfl 31 _ (0, 0) _ (fun _ h => h.1) HS31.out rfl Try.size31) hSw ?_
        (try simp only [Act.put, List.setIfInBounds_toArray, List.set_cons_zero, List.set_cons_succ, List.getElem_toArray, List.getElem_cons_succ, List.getElem_cons_zero])
        refine wpAnyH_take (i := 2) (v := ?_) rfl (by kernel_rfl) (by kernel_rfl) (by kernel_rfl) (fun _ _ _ h => h) (Or.inl ⟨by rfl, ?_⟩) hSw ?_
        rotate_left
        · (intro wS hSx; (try dsimp only at hSx); go_simp)
          all_goals with_reducible rfl
        (try simp only [Act.put, List.setIfInBounds_toArray, List.set_cons_zero, List.set_cons_succ, List.getElem_toArray, List.getElem_cons_succ, List.getElem_cons_zero])
        refine wpAnyH_take (i := 3) (v := ?_) rfl (by kernel_rfl) (by kernel_rfl) (by kernel_rfl) (fun _ _ _ h => h) (Or.inl ⟨by rfl, ?_⟩) hSw ?_
        rotate_left
        · (intro wS hSx; (try dsimp only at hSx); go_simp)
          all_goals with_reducible rfl
        (try simp only [Act.put, List.setIfInBounds_toArray, List.set_cons_zero, List.set_cons_succ, List.getElem_toArray, List.getElem_cons_succ, List.getElem_cons_zero])
        refine wpAnyH_take (i := 4) (v := ?_) rfl (by kernel_rfl) (by kernel_rfl) (by kernel_rfl) (fun _ _ _ h => h) (Or.inl ⟨by rfl, ?_⟩) hSw ?_
        rotate_left
        · (intro wS hSx; (try dsimp only at hSx); go_simp)
          all_goals with_reducible rfl
        (try simp only [Act.put, List.setIfInBounds_toArray, List.set_cons_zero, List.set_cons_succ, List.getElem_toArray, List.getElem_cons_succ, List.getElem_cons_zero])
        refine wpAnyH_take (i := 5) (v := ?_) rfl (by kernel_rfl) (by kernel_rfl) (by kernel_rfl) (fun _ _ _ h => h) (Or.inl ⟨by rfl, ?_⟩) hSw ?_
        rotate_left
        · (intro wS hSx; (try dsimp only at hSx); go_simp)
          all_goals with_reducible rfl
        (try simp only [Act.put, List.setIfInBounds_toArray, List.set_cons_zero, List.set_cons_succ, List.getElem_toArray, List.getElem_cons_succ, List.getElem_cons_zero])
        refine wpAnyH_ready (rs := [6]) (by kernel_rfl) (by simp) ?_
        refine AllReadyH.cons rfl (fun KK hKK => ?_) AllReadyH.nil
        go_simp
        refine CC.out.mono ?_
        rintro e v2 ⟨rfl, hbd⟩
        have hb2 : Below w4.heap.size w4 v2 := bel_drew hbd
        refine hKK.out _ _ ⟨(hb2.block A A4.out).trans X4.out, cell_later hb2 c4⟩ (fun hSw => ?_)
        clear hKK KK CC hbd
        (try simp only [Act.put, List.setIfInBounds_toArray, List.set_cons_zero, List.set_cons_succ, List.getElem_toArray, List.getElem_cons_succ, List.getElem_cons_zero])
        rcases HR.out.okb with ⟨h0, rfl⟩ | ⟨h0, rfl⟩
        all_goals
          refine wpAnyH_take (i := 7) (v := ?_) rfl (by kernel_rfl) (by kernel_rfl) (by kernel_rfl) (fun _ _ _ h => h) (Or.inl ⟨by rfl, ?_⟩) hSw ?_
          rotate_left
          · (intro wS hSx; (try dsimp only at hSx); go_simp)
            all_goals with_reducible rfl
          (try simp only [Act.put, List.setIfInBounds_toArray, List.set_cons_zero, List.set_cons_succ, List.getElem_toArray, List.getElem_cons_succ, List.getElem_cons_zero])
          refine wpAnyH_take (i := 8) (v := ?_) rfl (by kernel_rfl) (by kernel_rfl) (by kernel_rfl) (fun _ _ _ h => h) (Or.inl ⟨by rfl, ?_⟩) hSw ?_
          rotate_left
          · (intro wS hSx; (try dsimp only at hSx); go_simp)
            all_goals with_reducible rfl
          (try simp only [Act.put, List.setIfInBounds_toArray, List.set_cons_zero, List.set_cons_succ, List.getElem_toArray, List.getElem_cons_succ, List.getElem_cons_zero])
          refine wpAnyH_ready (rs := [9]) (by kernel_rfl) (by simp) ?_
          refine AllReadyH.cons rfl (fun KK hKK => ?_) AllReadyH.nil
          go_simp
          refine hKK.out _ _ hSw (fun hSw => ?_)
          clear hKK KK
          (try simp only [Act.put, List.setIfInBounds_toArray, List.set_cons_zero, List.set_cons_succ, List.getElem_toArray, List.getElem_cons_succ, List.getElem_cons_zero])
          refine wpAnyH_done (by kernel_rfl) ?_ _
          clear hSw c4 x10
          have hbc := hb2
          have B5 := Lib.hid (bthen B4.out hbc)
          have I5 := Lib.hid (I4.out.later hbc)
          have X5 : Hid (v2.heap[A]? = some (.cells #[s0, s1, s2, s3, s4, s5, s6, hd, mt, rm, gl, pc, it] 31 (0, 0))) := Lib.hid ((hbc.block A A4.out).trans X4.out)
          have A5 : Hid (A < v2.heap.size) := Lib.hid (Array.getElem?_eq_some_iff.1 X5.out).1
          clear hbc hb2
          go_wp2_with fail
          refine (made_asked S X v2 I5.out).mono ?_
          rintro e w6 ⟨rfl, hb6⟩
          have B6 := Lib.hid (bthen B5.out hb6)
          have I6 := Lib.hid (I5.out.later hb6)
          have X6 : Hid (w6.heap[A]? = some (.cells #[s0, s1, s2, s3, s4, s5, s6, hd, mt, rm, gl, pc, it] 31 (0, 0))) := Lib.hid ((hb6.block A A5.out).trans X5.out)
          clear hb6
          go_wp2_with fail
          exact ⟨⟨k + 1, by go_num, by omega, by omega, B6, X6, Lib.hid (.inr I6.out)⟩, by (first | (simp [intOf]; done) | (simp [intOf]; omega) | (simp only [intOf]; omega))⟩
      · go_wp2_with fail
        refine (gly_any S X id wr hi.out OK.out).mono ?_
        intro e w4 hp
        obtain ⟨hf, hI, pa, pb, q, qn, qc, okb, at1, rfl, hR⟩ := hp.is
        have HR := Lib.hid hR
        have B4 : Hid (Below w.heap.size w w4) := Lib.hid (hb.out.trans (hf.below WX.out hb.out.size))
        have I4 : Hid (IdxA S X w4) := Lib.hid hI
        have X4 : Hid (w4.heap[A]? = some (.cells #[s0, s1, s2, s3, s4, s5, s6, hd, mt, rm, gl, pc, it] 31 (0, 0))) := Lib.hid ((hf.block A (Array.getElem?_eq_some_iff.1 hx.out).1 (by have := AX.out; omega)).trans hx.out)
        have A4 : Hid (A < w4.heap.size) := Lib.hid (Array.getElem?_eq_some_iff.1 X4.out).1
        have c4 : w4.cell? ⟨g, off + k, none⟩ = some (.int .i64 (F k)) := row_cell (IDS.out w4 B4.out) hkn
        rw [← HF.out] at c4
        have x10 := (BxAt.of_heap X4.out).2.2 10 _ rfl
        clear hp hf hI hR c0 hx hi HD
        go_upto_region 19 with (fail)
        have CR := RG.out id w4.drew B4.out.drew
        rw [HR.out.1] at CR
        have CC := Lib.hid CR
        clear CR
        refine wp_region_held_drew (S := (fun w' => w'.heap[A]? = some (.cells #[s0, s1, s2, s3, s4, s5, s6, hd, mt, rm, gl, pc, it] 31 (0, 0)) ∧ w'.cell? ⟨g, off + k, none⟩ = some (.int .i64 id) ∧ w'.cell? ⟨A, 10, none⟩ = some gl)) (by kernel_rfl) ⟨X4.out, c4, x10⟩ (fun hSw => ?_)
        refine wpAnyH_take (i := 0) (v := ?_) rfl (by kernel_rfl) (by kernel_rfl) (by kernel_rfl) (fun _ _ _ h => h) (Or.inl ⟨by rfl, ?_⟩) hSw ?_
        rotate_left
        · (intro wS hSx; (try dsimp only at hSx); go_simp)
          all_goals with_reducible rfl
        (try simp only [Act.put, List.setIfInBounds_toArray, List.set_cons_zero, List.set_cons_succ, List.getElem_toArray, List.getElem_cons_zero])
        refine wpAnyH_take (i := 1) (v := ?_) rfl (by kernel_rfl) (by kernel_rfl) (by kernel_rfl) (fun _ _ _ h => h) (Or.inl ⟨by rfl, ?_⟩) hSw ?_
        rotate_left
        · (intro wS hSx; (try dsimp only at hSx); go_simp)
          all_goals with_reducible rfl
        (try simp only [Act.put, List.setIfInBounds_toArray, List.set_cons_zero, List.set_cons_succ, List.getElem_toArray, List.getElem_cons_succ, List.getElem_cons_zero])
        refine wpAnyH_take (i := 2) (v := ?_) rfl (by kernel_rfl) (by kernel_rfl) (by kernel_rfl) (fun _ _ _ h => h) (Or.inl ⟨by rfl, ?_⟩) hSw ?_
        rotate_left
        · (intro wS hSx; (try dsimp only at hSx); go_simp)
          all_goals with_reducible rfl
        (try simp only [Act.put, List.setIfInBounds_toArray, List.set_cons_zero, List.set_cons_succ, List.getElem_toArray, List.getElem_cons_succ, List.getElem_cons_zero])
        refine wpAnyH_take (i := 3) (v := ?_) rfl (by kernel_rfl) (by kernel_rfl) (by kernel_rfl) (fun _ _ _ h => h) (Or.inl ⟨by rfl, ?_⟩) hSw ?_
        rotate_left
        · (intro wS hSx; (try dsimp only at hSx); go_simp)
          all_goals with_reducible rfl
        (try simp only [Act.put, List.setIfInBounds_toArray, List.set_cons_zero, List.set_cons_succ, List.getElem_toArray, List.getElem_cons_succ, List.getElem_cons_zero])
        refine wpAnyH_take (i := 4) (v := ?_) rfl (by kernel_rfl) (by kernel_rfl) (by kernel_rfl) (fun _ _ _ h => h) (Or.inl ⟨by rfl, ?_⟩) hSw ?_
        rotate_left
        · (intro wS hSx; (try dsimp only at hSx); go_simp)
          all_goals with_reducible rfl
        (try simp only [Act.put, List.setIfInBounds_toArray, List.set_cons_zero, List.set_cons_succ, List.getElem_toArray, List.getElem_cons_succ, List.getElem_cons_zero])
        refine wpAnyH_take (i := 5) (v := ?_) rfl (by kernel_rfl) (by kernel_rfl) (by kernel_rfl) (fun _ _ _ h => h) (Or.inl ⟨by rfl, ?_⟩) hSw ?_
        rotate_left
        · (intro wS hSx; (try dsimp only at hSx); go_simp)
          all_goals with_reducible rfl
        (try simp only [Act.put, List.setIfInBounds_toArray, List.set_cons_zero, List.set_cons_succ, List.getElem_toArray, List.getElem_cons_succ, List.getElem_cons_zero])
        refine wpAnyH_take (i := 6) (v := ?_) rfl (by kernel_rfl) (by kernel_rfl) (by kernel_rfl) (fun _ _ _ h => h) (Or.inl ⟨by rfl, ?_⟩) hSw ?_
        rotate_left
        · (intro wS hSx; (try dsimp only at hSx); go_simp)
          all_goals with_reducible rfl
        (try simp only [Act.put, List.setIfInBounds_toArray, List.set_cons_zero, List.set_cons_succ, List.getElem_toArray, List.getElem_cons_succ, List.getElem_cons_zero])
        refine wpAnyH_ready (rs := [7]) (by kernel_rfl) (by simp) ?_
        refine AllReadyH.cons rfl (fun KK hKK => ?_) AllReadyH.nil
        go_simp
        refine CC.out.mono ?_
        rintro e v2 ⟨rfl, hbd⟩
        have hb2 : Below w4.heap.size w4 v2 := bel_drew hbd
        refine hKK.out _ _ ⟨(hb2.block A A4.out).trans X4.out, cell_later hb2 c4, cell_later hb2 x10⟩ (fun hSw => ?_)
        clear hKK KK CC hbd
        (try simp only [Act.put, List.setIfInBounds_toArray, List.set_cons_zero, List.set_cons_succ, List.getElem_toArray, List.getElem_cons_succ, List.getElem_cons_zero])
        rcases HR.out.okb with ⟨h0, rfl⟩ | ⟨h0, rfl⟩
        all_goals
          refine wpAnyH_take (i := 8) (v := ?_) rfl (by kernel_rfl) (by kernel_rfl) (by kernel_rfl) (fun _ _ _ h => h) (Or.inl ⟨by rfl, ?_⟩) hSw ?_
          rotate_left
          · (intro wS hSx; (try dsimp only at hSx); go_simp)
            all_goals with_reducible rfl
          (try simp only [Act.put, List.setIfInBounds_toArray, List.set_cons_zero, List.set_cons_succ, List.getElem_toArray, List.getElem_cons_succ, List.getElem_cons_zero])
          refine wpAnyH_take (i := 9) (v := ?_) rfl (by kernel_rfl) (by kernel_rfl) (by kernel_rfl) (fun _ _ _ h => h) (Or.inl ⟨by rfl, ?_⟩) hSw ?_
          rotate_left
          · (intro wS hSx; (try dsimp only at hSx); go_simp)
            all_goals with_reducible rfl
          (try simp only [Act.put, List.setIfInBounds_toArray, List.set_cons_zero, List.set_cons_succ, List.getElem_toArray, List.getElem_cons_succ, List.getElem_cons_zero])
          refine wpAnyH_ready (rs := [10]) (by kernel_rfl) (by simp) ?_
          refine AllReadyH.cons rfl (fun KK hKK => ?_) AllReadyH.nil
          go_simp
          refine hKK.out _ _ hSw (fun hSw => ?_)
          clear hKK KK
          (try simp only [Act.put, List.setIfInBounds_toArray, List.set_cons_zero, List.set_cons_succ, List.getElem_toArray, List.getElem_cons_succ, List.getElem_cons_zero])
          refine wpAnyH_done (by kernel_rfl) ?_ _
          clear hSw c4 x10
          have hbc := hb2
          have B5 := Lib.hid (bthen B4.out hbc)
          have I5 := Lib.hid (I4.out.later hbc)
          have X5 : Hid (v2.heap[A]? = some (.cells #[s0, s1, s2, s3, s4, s5, s6, hd, mt, rm, gl, pc, it] 31 (0, 0))) := Lib.hid ((hbc.block A A4.out).trans X4.out)
          have A5 : Hid (A < v2.heap.size) := Lib.hid (Array.getElem?_eq_some_iff.1 X5.out).1
          clear hbc hb2
          go_wp2_with fail
          refine (made_asked S X v2 I5.out).mono ?_
          rintro e w6 ⟨rfl, hb6⟩
          have B6 := Lib.hid (bthen B5.out hb6)
          have I6 := Lib.hid (I5.out.later hb6)
          have X6 : Hid (w6.heap[A]? = some (.cells #[s0, s1, s2, s3, s4, s5, s6, hd, mt, rm, gl, pc, it] 31 (0, 0))) := Lib.hid ((hb6.block A A5.out).trans X5.out)
          clear hb6
          go_wp2_with fail
          exact ⟨⟨k + 1, by go_num, by omega, by omega, B6, X6, Lib.hid (.inr I6.out)⟩, by (first | (simp [intOf]; done) | (simp [intOf]; omega) | (simp only [intOf]; omega))⟩
      · go_upto_region 9 with (fail)
        have HL : Hid (∀ g, D g → g < wr.heap.size) := Lib.hid (fun g hg => HD.out.elim (fun h => (h.1 g hg).2) (fun h => (h.1 g hg).2))
        have XL : Hid (X < wr.heap.size) := Lib.hid (HD.out.elim (fun h => h.lt) (fun h => h.lt))
        have AW : Hid (A < wr.heap.size) := Lib.hid (Array.getElem?_eq_some_iff.1 hx.out).1
        obtain ⟨pl, hpl⟩ : ∃ pl : Bool, pl = (id.tmod 2 == 0) := ⟨_, rfl⟩
        have PM := Lib.hid hpl.symm
        clear hpl
        refine wp_region_held_drew (S := (fun w' => w'.heap[A]? = some (.cells #[s0, s1, s2, s3, s4, s5, s6, hd, mt, rm, gl, pc, it] 31 (0, 0)) ∧ w'.cell? ⟨g, off + k, none⟩ = some (.int .i64 id))) (by kernel_rfl) ⟨hx.out, c0⟩ (fun hSw => ?_)
        refine wpAnyH_take (i := 0) (v := ?_) rfl (by kernel_rfl) (by kernel_rfl) (by kernel_rfl) (fun _ _ _ h => h) (Or.inl ⟨by rfl, ?_⟩) hSw ?_
        rotate_left
        · (intro wS hSx; (try dsimp only at hSx); go_simp)
          all_goals with_reducible rfl
        (try simp only [Act.put, List.setIfInBounds_toArray, List.set_cons_zero, List.set_cons_succ, List.getElem_toArray, List.getElem_cons_zero])
        refine wpAnyH_take (i := 1) (v := ?_) rfl (by kernel_rfl) (by kernel_rfl) (by kernel_rfl) (fun _ _ _ h => h) (Or.inl ⟨by rfl, ?_⟩) hSw ?_
        rotate_left
        · (intro wS hSx; (try dsimp only at hSx); go_simp)
          all_goals with_reducible rfl
        (try simp only [Act.put, List.setIfInBounds_toArray, List.set_cons_zero, List.set_cons_succ, List.getElem_toArray, List.getElem_cons_succ, List.getElem_cons_zero])
        refine wpAnyH_take (i := 2) (v := ?_) rfl (by kernel_rfl) (by kernel_rfl) (by kernel_rfl) (fun _ _ _ h => h) (Or.inl ⟨by rfl, ?_⟩) hSw ?_
        rotate_left
        · (intro wS hSx; (try dsimp only at hSx); go_simp)
          all_goals with_reducible rfl
        (try simp only [Act.put, List.setIfInBounds_toArray, List.set_cons_zero, List.set_cons_succ, List.getElem_toArray, List.getElem_cons_succ, List.getElem_cons_zero])
        refine wpAnyH_take (i := 3) (v := ?_) rfl (by kernel_rfl) (by kernel_rfl) (by kernel_rfl) (fun _ _ _ h => h) (Or.inl ⟨by rfl, ?_⟩) hSw ?_
        rotate_left
        · (intro wS hSx; (try dsimp only at hSx); go_simp)
          all_goals with_reducible rfl
        (try simp only [Act.put, List.setIfInBounds_toArray, List.set_cons_zero, List.set_cons_succ, List.getElem_toArray, List.getElem_cons_succ, List.getElem_cons_zero])
        refine wpAnyH_take (i := 4) (v := ?_) rfl (by kernel_rfl) (by kernel_rfl) (by kernel_rfl) (fun _ _ _ h => h) (Or.inl ⟨by rfl, ?_⟩) hSw ?_
        rotate_left
        · (intro wS hSx; (try dsimp only at hSx); go_simp)
          all_goals with_reducible rfl
        (try simp only [Act.put, List.setIfInBounds_toArray, List.set_cons_zero, List.set_cons_succ, List.getElem_toArray, List.getElem_cons_succ, List.getElem_cons_zero])
        refine wpAnyH_take (i := 5) (v := ?_) rfl (by kernel_rfl) (by kernel_rfl) (by kernel_rfl) (fun _ _ _ h => h) (Or.inl ⟨by rfl, ?_⟩) hSw ?_
        rotate_left
        · (intro wS hSx; (try dsimp only at hSx); go_simp)
          all_goals with_reducible rfl
        (try simp only [Act.put, List.setIfInBounds_toArray, List.set_cons_zero, List.set_cons_succ, List.getElem_toArray, List.getElem_cons_succ, List.getElem_cons_zero])
        refine wpAnyH_take (i := 6) (v := ?_) rfl (by kernel_rfl) (by kernel_rfl) (by kernel_rfl) (fun _ _ _ h => h) (Or.inl ⟨by rfl, ?_⟩) hSw ?_
        rotate_left
        · (intro wS hSx; (try dsimp only at hSx); go_simp)
          all_goals with_reducible rfl
        (try simp only [Act.put, List.setIfInBounds_toArray, List.set_cons_zero, List.set_cons_succ, List.getElem_toArray, List.getElem_cons_succ, List.getElem_cons_zero])
        refine wpAnyH_take (i := 7) (v := ?_) rfl (by kernel_rfl) (by kernel_rfl) (by kernel_rfl) (fun _ _ _ h => h) (Or.inl ⟨by rfl, ?_⟩) hSw ?_
        rotate_left
        · (intro wS hSx; (try dsimp only at hSx); go_simp)
          all_goals with_reducible rfl
        (try simp only [Act.put, List.setIfInBounds_toArray, List.set_cons_zero, List.set_cons_succ, List.getElem_toArray, List.getElem_cons_succ, List.getElem_cons_zero])
        refine wpAnyH_take (i := 8) (v := ?_) rfl (by kernel_rfl) (by kernel_rfl) (by kernel_rfl) (fun _ _ _ h => h) (Or.inl ⟨by rfl, ?_⟩) hSw ?_
        rotate_left
        · (intro wS hSx; (try dsimp only at hSx); go_simp)
          all_goals with_reducible rfl
        (try simp only [Act.put, List.setIfInBounds_toArray, List.set_cons_zero, List.set_cons_succ, List.getElem_toArray, List.getElem_cons_succ, List.getElem_cons_zero])
        refine wpAnyH_take (i := 9) (v := ?_) rfl (by kernel_rfl) (by kernel_rfl) (by kernel_rfl) (fun _ _ _ h => h) (Or.inl ⟨by rfl, ?_⟩) hSw ?_
        rotate_left
        · (intro wS hSx; (try dsimp only at hSx); go_simp)
          all_goals with_reducible rfl
        (try simp only [Act.put, List.setIfInBounds_toArray, List.set_cons_zero, List.set_cons_succ, List.getElem_toArray, List.getElem_cons_succ, List.getElem_cons_zero])
        refine wpAnyH_take (i := 10) (v := ?_) rfl (by kernel_rfl) (by kernel_rfl) (by kernel_rfl) (fun _ _ _ h => h) (Or.inl ⟨by rfl, ?_⟩) hSw ?_
        rotate_left
        · (intro wS hSx; (try dsimp only at hSx); go_simp)
          all_goals with_reducible rfl
        (try simp only [Act.put, List.setIfInBounds_toArray, List.set_cons_zero, List.set_cons_succ, List.getElem_toArray, List.getElem_cons_succ, List.getElem_cons_zero])
        simp only [PM.out]
        refine wpAnyH_take (i := 11) (v := ?_) rfl (by kernel_rfl) (by kernel_rfl) (by kernel_rfl) (fun _ _ _ h => h) (Or.inl ⟨by rfl, ?_⟩) hSw ?_
        rotate_left
        · (intro wS hSx; (try dsimp only at hSx); go_simp)
          all_goals with_reducible rfl
        (try simp only [Act.put, List.setIfInBounds_toArray, List.set_cons_zero, List.set_cons_succ, List.getElem_toArray, List.getElem_cons_succ, List.getElem_cons_zero])
        refine wpAnyH_ready (rs := [12, 16]) (by kernel_rfl) (by simp) ?_
        refine AllReadyH.cons rfl (fun KK hKK => ?_) (AllReadyH.cons rfl (fun KK hKK => ?_) AllReadyH.nil)
        · -- the call first
          have AV : Hid (A < wr.drew.heap.size) := AW
          have BV : Hid (Below w.heap.size w wr.drew) := Lib.hid hb.out.drew
          have II : IdxFD S X D wr.drew ∨ IdxAD S X D wr.drew := HD.out.elim (fun h => .inl (h.later (Below.refl _ _).drew)) (fun h => .inr (h.later (Below.refl _ _).drew))
          go_simp
          refine (paintd_any S X D pl 0 0 0 0 id 0 (wr.drew) II OK.out).mono ?_
          rintro e v1 ⟨hf, ⟨D', hD', ha⟩, P, er, hp, rfl⟩
          obtain ⟨q0, q1, q2, q3, q4, q5, q6, q7, q8, q9, q10, q11, q12, q13, rfl⟩ := hp.form
          have PI := Lib.hid hp
          have xa := (hf.block A AV.out (by have := AX.out; omega)).trans hSw.1
          have b1 : Below w.heap.size w v1 := BV.out.trans (hf.below WX.out BV.out.size)
          have ya := row_cell (IDS.out v1 b1) hkn
          rw [← HF.out] at ya
          have BV1 := Lib.hid b1
          have I1 := Lib.hid ha
          have A1 : Hid (A < v1.heap.size) := Lib.hid (Nat.lt_of_lt_of_le AV.out hf.size)
          clear hf hD' ha hp b1 II
          refine hKK.out _ _ ⟨xa, ya⟩ (fun hSw => ?_)
          clear hKK KK
          (try simp only [Act.put, List.setIfInBounds_toArray, List.set_cons_zero, List.set_cons_succ, List.getElem_toArray, List.getElem_cons_succ, List.getElem_cons_zero])
          refine wpAnyH_take (i := 13) (v := ?_) rfl (by kernel_rfl) (by kernel_rfl) (by kernel_rfl) (fun _ _ _ h => h) (Or.inl ⟨by rfl, ?_⟩) hSw ?_
          rotate_left
          · (intro wS hSx; (try dsimp only at hSx); go_simp)
            all_goals with_reducible rfl
          (try simp only [Act.put, List.setIfInBounds_toArray, List.set_cons_zero, List.set_cons_succ, List.getElem_toArray, List.getElem_cons_succ, List.getElem_cons_zero])
          refine wpAnyH_take (i := 14) (v := ?_) rfl (by kernel_rfl) (by kernel_rfl) (by kernel_rfl) (fun _ _ _ h => h) (Or.inl ⟨by rfl, ?_⟩) hSw ?_
          rotate_left
          · (intro wS hSx; (try dsimp only at hSx); go_simp)
            all_goals with_reducible rfl
          (try simp only [Act.put, List.setIfInBounds_toArray, List.set_cons_zero, List.set_cons_succ, List.getElem_toArray, List.getElem_cons_succ, List.getElem_cons_zero])
          refine wpAnyH_take (i := 15) (v := ?_) rfl (by kernel_rfl) (by kernel_rfl) (by kernel_rfl) (fun _ _ _ h => h) (Or.inl ⟨by rfl, ?_⟩) hSw ?_
          rotate_left
          · (intro wS hSx; (try dsimp only at hSx); go_simp)
            all_goals with_reducible rfl
          (try simp only [Act.put, List.setIfInBounds_toArray, List.set_cons_zero, List.set_cons_succ, List.getElem_toArray, List.getElem_cons_succ, List.getElem_cons_zero])
          refine wpAnyH_ready (rs := [16]) (by kernel_rfl) (by simp) ?_
          refine AllReadyH.cons rfl (fun KK hKK => ?_) AllReadyH.nil
          go_simp
          obtain ⟨V, hV⟩ : ∃ V, V = v1.heap.size := ⟨_, rfl⟩
          obtain ⟨vz, hvz⟩ : ∃ vz, vz = v1.alloc (.cells paintZ 40) := ⟨_, rfl⟩
          have GZ : Hid (vz.heap[V]? = some (.cells paintZ 40 (0, 0))) := Lib.hid (by rw [hvz, hV]; exact heap_alloc_new v1 _)
          have VW : Hid (w.heap.size ≤ V) := Lib.hid (by rw [hV]; exact BV1.out.size)
          have VA : Hid (A < V) := Lib.hid (by rw [hV]; exact A1.out)
          have VX : Hid (X < V) := Lib.hid (by rw [hV]; exact I1.out.lt)
          have NV : Hid (¬ D' V) := Lib.hid (fun h => by have := (I1.out.1 V h).2; omega)
          have bz : Below v1.heap.size v1 vz := by rw [hvz]; exact below_alloc _ _
          have xa := (bz.block A A1.out).trans hSw.1
          have ya := cell_later bz hSw.2
          have BZ := Lib.hid (bthen BV1.out bz)
          have IZ := Lib.hid (I1.out.later bz)
          rw [← hvz, ← hV]
          clear hvz hV bz BV1 I1 A1
          refine hKK.out _ _ ⟨xa, ya⟩ (fun hSw => ?_)
          clear hKK KK
          (try simp only [Act.put, List.setIfInBounds_toArray, List.set_cons_zero, List.set_cons_succ, List.getElem_toArray, List.getElem_cons_succ, List.getElem_cons_zero])
          refine wpAnyH_ready (rs := [17]) (by kernel_rfl) (by simp) ?_
          refine AllReadyH.cons rfl (fun KK hKK => ?_) AllReadyH.nil
          refine step_store_row rfl 40 (.tmp 8) (.tmp 41) rfl V (paintL q0 q1 q2 q3 q4 q5 q6 q7 q8 q9 q10 q11 q12 q13) rfl rfl 40 paintZ GZ.out Try.size40 rfl (paintL_one _ _ _ _ _ _ _ _ _ _ _ _ _ _) ?_
          have xa := (setRow_other vz V A (paintL q0 q1 q2 q3 q4 q5 q6 q7 q8 q9 q10 q11 q12 q13) (by have := VA.out; omega)).trans hSw.1
          have BF := Lib.hid (below_setRow BZ.out VW.out (paintL q0 q1 q2 q3 q4 q5 q6 q7 q8 q9 q10 q11 q12 q13))
          have IF := Lib.hid (IZ.out.frm ((FrmA.refl vz V).row (paintL q0 q1 q2 q3 q4 q5 q6 q7 q8 q9 q10 q11 q12 q13)) NV.out (by have := VX.out; omega))
          obtain ⟨wf, hwf⟩ : ∃ wf, wf = vz.setRow V (paintL q0 q1 q2 q3 q4 q5 q6 q7 q8 q9 q10 q11 q12 q13) := ⟨_, rfl⟩
          rw [← hwf] at xa BF IF ⊢
          have ya := row_cell (IDS.out wf BF.out) hkn
          rw [← HF.out] at ya
          clear hwf GZ BZ IZ
          refine hKK.out _ _ ⟨xa, ya⟩ (fun hSw => ?_)
          clear hKK KK
          (try simp only [Act.put, List.setIfInBounds_toArray, List.getElem_toArray])
          refine wpAnyH_ready (rs := [18]) (by kernel_rfl) (by simp) ?_
          refine AllReadyH.cons rfl (fun KK hKK => ?_) AllReadyH.nil
          go_simp
          have xa := hSw.1
          have ya := hSw.2
          refine hKK.out _ _ ⟨xa, ya⟩ (fun hSw => ?_)
          clear hKK KK
          (try simp only [Act.put, List.setIfInBounds_toArray, List.set_cons_zero, List.set_cons_succ, List.getElem_toArray, List.getElem_cons_succ, List.getElem_cons_zero])
          refine wpAnyH_done (by kernel_rfl) ?_ _
          have XF := Lib.hid hSw.1
          have c4 := hSw.2
          clear hSw NV VA VW VX xa ya
          as_aux_lemma =>
          go_upto_region 10 with (fail)
          have CR := RR.out id wf.drew BF.out.drew
          have CC := Lib.hid CR
          clear CR
          refine wp_region_held_drew (S := (fun w' => w'.heap[A]? = some (.cells #[s0, s1, s2, s3, s4, s5, s6, hd, mt, rm, gl, pc, it] 31 (0, 0)) ∧ w'.cell? ⟨g, off + k, none⟩ = some (.int .i64 id))) (by kernel_rfl) ⟨XF.out, c4⟩ (fun hSw => ?_)
          refine wpAnyH_take (i := 0) (v := ?_) rfl (by kernel_rfl) (by kernel_rfl) (by kernel_rfl) (fun _ _ _ h => h) (Or.inl ⟨by rfl, ?_⟩) hSw ?_
          rotate_left
          · (intro wS hSx; (try dsimp only at hSx); go_simp)
            all_goals with_reducible rfl
          (try simp only [Act.put, List.setIfInBounds_toArray, List.set_cons_zero, List.set_cons_succ, List.getElem_toArray, List.getElem_cons_zero])
          refine wpAnyH_take (i := 1) (v := ?_) rfl (by kernel_rfl) (by kernel_rfl) (by kernel_rfl) (fun _ _ _ h => h) (Or.inl ⟨by rfl, ?_⟩) hSw ?_
          rotate_left
          · (intro wS hSx; (try dsimp only at hSx); go_simp)
            all_goals with_reducible rfl
          (try simp only [Act.put, List.setIfInBounds_toArray, List.set_cons_zero, List.set_cons_succ, List.getElem_toArray, List.getElem_cons_succ, List.getElem_cons_zero])
          refine wpAnyH_take (i := 2) (v := ?_) rfl (by kernel_rfl) (by kernel_rfl) (by kernel_rfl) (fun _ _ _ h => h) (Or.inl ⟨by rfl, ?_⟩) hSw ?_
          rotate_left
          · (intro wS hSx; (try dsimp only at hSx); go_simp)
            all_goals with_reducible rfl
          (try simp only [Act.put, List.setIfInBounds_toArray, List.set_cons_zero, List.set_cons_succ, List.getElem_toArray, List.getElem_cons_succ, List.getElem_cons_zero])
          refine wpAnyH_take (i := 3) (v := ?_) rfl (by kernel_rfl) (by kernel_rfl) (by kernel_rfl) (fun _ _ _ h => h) (Or.inl ⟨by rfl, ?_⟩) hSw ?_
          rotate_left
          · (intro wS hSx; (try dsimp only at hSx); go_simp)
            all_goals with_reducible rfl
          (try simp only [Act.put, List.setIfInBounds_toArray, List.set_cons_zero, List.set_cons_succ, List.getElem_toArray, List.getElem_cons_succ, List.getElem_cons_zero])
          refine wpAnyH_take (i := 4) (v := ?_) rfl (by kernel_rfl) (by kernel_rfl) (by kernel_rfl) (fun _ _ _ h => h) (Or.inl ⟨by rfl, ?_⟩) hSw ?_
          rotate_left
          · (intro wS hSx; (try dsimp only at hSx); go_simp)
            all_goals with_reducible rfl
          (try simp only [Act.put, List.setIfInBounds_toArray, List.set_cons_zero, List.set_cons_succ, List.getElem_toArray, List.getElem_cons_succ, List.getElem_cons_zero])
          refine wpAnyH_take (i := 5) (v := ?_) rfl (by kernel_rfl) (by kernel_rfl) (by kernel_rfl) (fun _ _ _ h => h) (Or.inl ⟨by rfl, ?_⟩) hSw ?_
          rotate_left
          · (intro wS hSx; (try dsimp only at hSx); go_simp)
            all_goals with_reducible rfl
          (try simp only [Act.put, List.setIfInBounds_toArray, List.set_cons_zero, List.set_cons_succ, List.getElem_toArray, List.getElem_cons_succ, List.getElem_cons_zero])
          refine wpAnyH_take (i := 6) (v := ?_) rfl (by kernel_rfl) (by kernel_rfl) (by kernel_rfl) (fun _ _ _ h => h) (Or.inl ⟨by rfl, ?_⟩) hSw ?_
          rotate_left
          · (intro wS hSx; (try dsimp only at hSx); go_simp)
            all_goals with_reducible rfl
          (try simp only [Act.put, List.setIfInBounds_toArray, List.set_cons_zero, List.set_cons_succ, List.getElem_toArray, List.getElem_cons_succ, List.getElem_cons_zero])
          refine wpAnyH_take (i := 7) (v := ?_) rfl (by kernel_rfl) (by kernel_rfl) (by kernel_rfl) (fun _ _ _ h => h) (Or.inl ⟨by rfl, ?_⟩) hSw ?_
          rotate_left
          · (intro wS hSx; (try dsimp only at hSx); go_simp)
            all_goals with_reducible rfl
          (try simp only [Act.put, List.setIfInBounds_toArray, List.set_cons_zero, List.set_cons_succ, List.getElem_toArray, List.getElem_cons_succ, List.getElem_cons_zero])
          refine wpAnyH_take (i := 8) (v := ?_) rfl (by kernel_rfl) (by kernel_rfl) (by kernel_rfl) (fun _ _ _ h => h) (Or.inl ⟨by rfl, ?_⟩) hSw ?_
          rotate_left
          · (intro wS hSx; (try dsimp only at hSx); go_simp)
            all_goals with_reducible rfl
          (try simp only [Act.put, List.setIfInBounds_toArray, List.set_cons_zero, List.set_cons_succ, List.getElem_toArray, List.getElem_cons_succ, List.getElem_cons_zero])
          simp only [PM.out]
          cases pl
          · refine wpAnyH_take (i := 9) (v := .agg #[s0, s1, s2, s3, s4, s5, s6, hd, mt, rm, gl, pc, it]) rfl (by kernel_rfl) (by kernel_rfl) (by kernel_rfl) (fun _ _ _ h => h) (yields_row (by rfl) 31 (.tmp 2) rfl A rfl 31 _ (0, 0) _ (fun _ h => h.1) HS31.out rfl Try.size31) hSw ?_
            (try simp only [Act.put, List.setIfInBounds_toArray, List.set_cons_zero, List.set_cons_succ, List.getElem_toArray, List.getElem_cons_succ, List.getElem_cons_zero])
            refine wpAnyH_take (i := 10) (v := ?_) rfl (by kernel_rfl) (by kernel_rfl) (by kernel_rfl) (fun _ _ _ h => h) (Or.inl ⟨by rfl, ?_⟩) hSw ?_
            rotate_left
            · (intro wS hSx; (try dsimp only at hSx); go_simp)
              all_goals with_reducible rfl
            (try simp only [Act.put, List.setIfInBounds_toArray, List.set_cons_zero, List.set_cons_succ, List.getElem_toArray, List.getElem_cons_succ, List.getElem_cons_zero])
            refine wpAnyH_take (i := 11) (v := ?_) rfl (by kernel_rfl) (by kernel_rfl) (by kernel_rfl) (fun _ _ _ h => h) (Or.inl ⟨by rfl, ?_⟩) hSw ?_
            rotate_left
            · (intro wS hSx; (try dsimp only at hSx); go_simp)
              all_goals with_reducible rfl
            (try simp only [Act.put, List.setIfInBounds_toArray, List.set_cons_zero, List.set_cons_succ, List.getElem_toArray, List.getElem_cons_succ, List.getElem_cons_zero])
            refine wpAnyH_take (i := 12) (v := ?_) rfl (by kernel_rfl) (by kernel_rfl) (by kernel_rfl) (fun _ _ _ h => h) (Or.inl ⟨by rfl, ?_⟩) hSw ?_
            rotate_left
            · (intro wS hSx; (try dsimp only at hSx); go_simp)
              all_goals with_reducible rfl
            (try simp only [Act.put, List.setIfInBounds_toArray, List.set_cons_zero, List.set_cons_succ, List.getElem_toArray, List.getElem_cons_succ, List.getElem_cons_zero])
            refine wpAnyH_take (i := 13) (v := ?_) rfl (by kernel_rfl) (by kernel_rfl) (by kernel_rfl) (fun _ _ _ h => h) (Or.inl ⟨by rfl, ?_⟩) hSw ?_
            rotate_left
            · (intro wS hSx; (try dsimp only at hSx); go_simp)
              all_goals with_reducible rfl
            (try simp only [Act.put, List.setIfInBounds_toArray, List.set_cons_zero, List.set_cons_succ, List.getElem_toArray, List.getElem_cons_succ, List.getElem_cons_zero])
            refine wpAnyH_ready (rs := [14]) (by kernel_rfl) (by simp) ?_
            refine AllReadyH.cons rfl (fun KK hKK => ?_) AllReadyH.nil
            go_simp
            refine CC.out.mono ?_
            rintro e v2 ⟨rfl, hbd⟩
            have hb2 : Below wf.heap.size wf v2 := bel_drew hbd
            refine hKK.out _ _ ⟨(hb2.block A (Array.getElem?_eq_some_iff.1 XF.out).1).trans XF.out, cell_later hb2 c4⟩ (fun hSw => ?_)
            clear hKK KK CC hbd
            (try simp only [Act.put, List.setIfInBounds_toArray, List.set_cons_zero, List.set_cons_succ, List.getElem_toArray, List.getElem_cons_succ, List.getElem_cons_zero])
            rcases PI.out with ⟨h, _⟩ | ⟨_, h1, _, rfl⟩ | ⟨_, p, _, h1, _, rfl⟩
            · cases h
            all_goals
              simp only [h1]
              refine wpAnyH_take (i := 15) (v := ?_) rfl (by kernel_rfl) (by kernel_rfl) (by kernel_rfl) (fun _ _ _ h => h) (Or.inl ⟨by rfl, ?_⟩) hSw ?_
              rotate_left
              · (intro wS hSx; (try dsimp only at hSx); go_simp)
                all_goals with_reducible rfl
              (try simp only [Act.put, List.setIfInBounds_toArray, List.set_cons_zero, List.set_cons_succ, List.getElem_toArray, List.getElem_cons_succ, List.getElem_cons_zero])
              refine wpAnyH_take (i := 16) (v := ?_) rfl (by kernel_rfl) (by kernel_rfl) (by kernel_rfl) (fun _ _ _ h => h) (Or.inl ⟨by rfl, ?_⟩) hSw ?_
              rotate_left
              · (intro wS hSx; (try dsimp only at hSx); go_simp)
                all_goals with_reducible rfl
              (try simp only [Act.put, List.setIfInBounds_toArray, List.set_cons_zero, List.set_cons_succ, List.getElem_toArray, List.getElem_cons_succ, List.getElem_cons_zero])
              refine wpAnyH_take (i := 17) (v := ?_) rfl (by kernel_rfl) (by kernel_rfl) (by kernel_rfl) (fun _ _ _ h => h) (Or.inl ⟨by rfl, ?_⟩) hSw ?_
              rotate_left
              · (intro wS hSx; (try dsimp only at hSx); go_simp)
                all_goals with_reducible rfl
              (try simp only [Act.put, List.setIfInBounds_toArray, List.set_cons_zero, List.set_cons_succ, List.getElem_toArray, List.getElem_cons_succ, List.getElem_cons_zero])
              refine wpAnyH_ready (rs := [18]) (by kernel_rfl) (by simp) ?_
              refine AllReadyH.cons rfl (fun KK hKK => ?_) AllReadyH.nil
              go_simp
              refine hKK.out _ _ hSw (fun hSw => ?_)
              clear hKK KK
              (try simp only [Act.put, List.setIfInBounds_toArray, List.set_cons_zero, List.set_cons_succ, List.getElem_toArray, List.getElem_cons_succ, List.getElem_cons_zero])
              refine wpAnyH_done (by kernel_rfl) ?_ _
              clear hSw c4
              have B4 := BF
              have I4 : Hid (IdxA S X wf) := Lib.hid ⟨_, IF.out⟩
              have X4 := XF
              have A4 : Hid (A < wf.heap.size) := Lib.hid (Array.getElem?_eq_some_iff.1 X4.out).1
              have hbc := hb2
              have B5 := Lib.hid (bthen B4.out hbc)
              have I5 := Lib.hid (I4.out.later hbc)
              have X5 : Hid (v2.heap[A]? = some (.cells #[s0, s1, s2, s3, s4, s5, s6, hd, mt, rm, gl, pc, it] 31 (0, 0))) := Lib.hid ((hbc.block A A4.out).trans X4.out)
              have A5 : Hid (A < v2.heap.size) := Lib.hid (Array.getElem?_eq_some_iff.1 X5.out).1
              clear hbc hb2
              go_wp2_with fail
              refine (made_asked S X v2 I5.out).mono ?_
              rintro e w6 ⟨rfl, hb6⟩
              have B6 := Lib.hid (bthen B5.out hb6)
              have I6 := Lib.hid (I5.out.later hb6)
              have X6 : Hid (w6.heap[A]? = some (.cells #[s0, s1, s2, s3, s4, s5, s6, hd, mt, rm, gl, pc, it] 31 (0, 0))) := Lib.hid ((hb6.block A A5.out).trans X5.out)
              clear hb6
              go_wp2_with fail
              exact ⟨⟨k + 1, by go_num, by omega, by omega, B6, X6, Lib.hid (.inr I6.out)⟩, by (first | (simp [intOf]; done) | (simp [intOf]; omega) | (simp only [intOf]; omega))⟩
          · refine wpAnyH_take (i := 9) (v := undef) rfl (by kernel_rfl) (by kernel_rfl) (by kernel_rfl) (fun _ _ _ h => h) (Or.inr ⟨by rfl, rfl⟩) hSw ?_
            (try simp only [Act.put, List.setIfInBounds_toArray, List.set_cons_zero, List.set_cons_succ, List.getElem_toArray, List.getElem_cons_succ, List.getElem_cons_zero])
            refine wpAnyH_take (i := 10) (v := undef) rfl (by kernel_rfl) (by kernel_rfl) (by kernel_rfl) (fun _ _ _ h => h) (Or.inr ⟨by rfl, rfl⟩) hSw ?_
            (try simp only [Act.put, List.setIfInBounds_toArray, List.set_cons_zero, List.set_cons_succ, List.getElem_toArray, List.getElem_cons_succ, List.getElem_cons_zero])
            refine wpAnyH_take (i := 11) (v := undef) rfl (by kernel_rfl) (by kernel_rfl) (by kernel_rfl) (fun _ _ _ h => h) (Or.inr ⟨by rfl, rfl⟩) hSw ?_
            (try simp only [Act.put, List.setIfInBounds_toArray, List.set_cons_zero, List.set_cons_succ, List.getElem_toArray, List.getElem_cons_succ, List.getElem_cons_zero])
            refine wpAnyH_take (i := 12) (v := undef) rfl (by kernel_rfl) (by kernel_rfl) (by kernel_rfl) (fun _ _ _ h => h) (Or.inr ⟨by rfl, rfl⟩) hSw ?_
            (try simp only [Act.put, List.setIfInBounds_toArray, List.set_cons_zero, List.set_cons_succ, List.getElem_toArray, List.getElem_cons_succ, List.getElem_cons_zero])
            refine wpAnyH_take (i := 13) (v := undef) rfl (by kernel_rfl) (by kernel_rfl) (by kernel_rfl) (fun _ _ _ h => h) (Or.inr ⟨by rfl, rfl⟩) hSw ?_
            (try simp only [Act.put, List.setIfInBounds_toArray, List.set_cons_zero, List.set_cons_succ, List.getElem_toArray, List.getElem_cons_succ, List.getElem_cons_zero])
            refine wpAnyH_ready (rs := [14]) (by kernel_rfl) (by simp) ?_
            refine AllReadyH.cons rfl (fun KK hKK => ?_) AllReadyH.nil
            go_simp
            go_simp
            refine hKK.out _ _ hSw (fun hSw => ?_)
            clear hKK KK
            (try simp only [Act.put, List.setIfInBounds_toArray, List.set_cons_zero, List.set_cons_succ, List.getElem_toArray, List.getElem_cons_succ, List.getElem_cons_zero])
            refine wpAnyH_take (i := 15) (v := undef) rfl (by kernel_rfl) (by kernel_rfl) (by kernel_rfl) (fun _ _ _ h => h) (Or.inr ⟨by rfl, rfl⟩) hSw ?_
            (try simp only [Act.put, List.setIfInBounds_toArray, List.set_cons_zero, List.set_cons_succ, List.getElem_toArray, List.getElem_cons_succ, List.getElem_cons_zero])
            rcases PI.out with ⟨_, _, rfl⟩ | ⟨h, _⟩ | ⟨h, _⟩
            rotate_left
            · cases h
            · cases h
            refine wpAnyH_take (i := 16) (v := ?_) rfl (by kernel_rfl) (by kernel_rfl) (by kernel_rfl) (fun _ _ _ h => h) (Or.inl ⟨by rfl, ?_⟩) hSw ?_
            rotate_left
            · (intro wS hSx; (try dsimp only at hSx); go_simp)
              all_goals with_reducible rfl
            (try simp only [Act.put, List.setIfInBounds_toArray, List.set_cons_zero, List.set_cons_succ, List.getElem_toArray, List.getElem_cons_succ, List.getElem_cons_zero])
            refine wpAnyH_take (i := 17) (v := ?_) rfl (by kernel_rfl) (by kernel_rfl) (by kernel_rfl) (fun _ _ _ h => h) (Or.inl ⟨by rfl, ?_⟩) hSw ?_
            rotate_left
            · (intro wS hSx; (try dsimp only at hSx); go_simp)
              all_goals with_reducible rfl
            (try simp only [Act.put, List.setIfInBounds_toArray, List.set_cons_zero, List.set_cons_succ, List.getElem_toArray, List.getElem_cons_succ, List.getElem_cons_zero])
            refine wpAnyH_ready (rs := [18]) (by kernel_rfl) (by simp) ?_
            refine AllReadyH.cons rfl (fun KK hKK => ?_) AllReadyH.nil
            go_simp
            refine hKK.out _ _ hSw (fun hSw => ?_)
            clear hKK KK
            (try simp only [Act.put, List.setIfInBounds_toArray, List.set_cons_zero, List.set_cons_succ, List.getElem_toArray, List.getElem_cons_succ, List.getElem_cons_zero])
            refine wpAnyH_done (by kernel_rfl) ?_ _
            clear hSw c4
            have hb2 : Below wf.heap.size wf wf.drew := (Below.refl _ _).drew
            obtain ⟨v2, hv2⟩ : ∃ v2, v2 = wf.drew := ⟨_, rfl⟩
            rw [← hv2] at hb2 ⊢
            clear hv2
            have B4 := BF
            have I4 : Hid (IdxA S X wf) := Lib.hid ⟨_, IF.out⟩
            have X4 := XF
            have A4 : Hid (A < wf.heap.size) := Lib.hid (Array.getElem?_eq_some_iff.1 X4.out).1
            have hbc := hb2
            have B5 := Lib.hid (bthen B4.out hbc)
            have I5 := Lib.hid (I4.out.later hbc)
            have X5 : Hid (v2.heap[A]? = some (.cells #[s0, s1, s2, s3, s4, s5, s6, hd, mt, rm, gl, pc, it] 31 (0, 0))) := Lib.hid ((hbc.block A A4.out).trans X4.out)
            have A5 : Hid (A < v2.heap.size) := Lib.hid (Array.getElem?_eq_some_iff.1 X5.out).1
            clear hbc hb2
            go_wp2_with fail
            refine (made_asked S X v2 I5.out).mono ?_
            rintro e w6 ⟨rfl, hb6⟩
            have B6 := Lib.hid (bthen B5.out hb6)
            have I6 := Lib.hid (I5.out.later hb6)
            have X6 : Hid (w6.heap[A]? = some (.cells #[s0, s1, s2, s3, s4, s5, s6, hd, mt, rm, gl, pc, it] 31 (0, 0))) := Lib.hid ((hb6.block A A5.out).trans X5.out)
            clear hb6
            go_wp2_with fail
            exact ⟨⟨k + 1, by go_num, by omega, by omega, B6, X6, Lib.hid (.inr I6.out)⟩, by (first | (simp [intOf]; done) | (simp [intOf]; omega) | (simp only [intOf]; omega))⟩
        · -- the alloc first
          go_simp
          obtain ⟨V, hV⟩ : ∃ V, V = wr.heap.size := ⟨_, rfl⟩
          obtain ⟨va, hva⟩ : ∃ va, va = (wr.alloc (.cells paintZ 40)).drew := ⟨_, rfl⟩
          have GA : Hid (va.heap[V]? = some (.cells paintZ 40 (0, 0))) := Lib.hid (by rw [hva, hV]; exact heap_alloc_new wr _)
          have VW : Hid (w.heap.size ≤ V) := Lib.hid (by rw [hV]; exact hb.out.size)
          have VA : Hid (A < V) := Lib.hid (by rw [hV]; exact AW.out)
          have VX : Hid (X < V) := Lib.hid (by rw [hV]; exact XL.out)
          have SV : Hid (va.heap.size = V + 1) := Lib.hid (by rw [hva, hV]; simp)
          have bz : Below wr.heap.size wr va := by rw [hva]; exact (below_alloc _ _).drew
          have xa := (bz.block A AW.out).trans hSw.1
          have ya := cell_later bz c0
          have AV : Hid (A < va.heap.size) := Lib.hid (by have := SV.out; have := VA.out; omega)
          have BV := Lib.hid (bthen hb.out bz)
          have DV : Hid (∀ g, D g → g < V) := Lib.hid (by rw [hV]; exact HL.out)
          have IV : Hid (IdxFD S X D va ∨ IdxAD S X D va) := Lib.hid (HD.out.elim (fun h => .inl (h.later bz)) (fun h => .inr (h.later bz)))
          rw [← hva, ← hV]
          clear hva hV bz
          refine hKK.out _ _ ⟨xa, ya⟩ (fun hSw => ?_)
          clear hKK KK
          (try simp only [Act.put, List.setIfInBounds_toArray, List.set_cons_zero, List.set_cons_succ, List.getElem_toArray, List.getElem_cons_succ, List.getElem_cons_zero])
          refine wpAnyH_ready (rs := [12]) (by kernel_rfl) (by simp) ?_
          refine AllReadyH.cons rfl (fun KK hKK => ?_) AllReadyH.nil
          go_simp
          go_simp
          refine (paintd_any S X D pl 0 0 0 0 id 0 (va) IV.out OK.out).mono ?_
          rintro e v1 ⟨hf, ⟨D', hD', ha⟩, P, er, hp, rfl⟩
          obtain ⟨q0, q1, q2, q3, q4, q5, q6, q7, q8, q9, q10, q11, q12, q13, rfl⟩ := hp.form
          have PI := Lib.hid hp
          have xa := (hf.block A AV.out (by have := AX.out; omega)).trans hSw.1
          have b1 : Below w.heap.size w v1 := BV.out.trans (hf.below WX.out BV.out.size)
          have ya := row_cell (IDS.out v1 b1) hkn
          rw [← HF.out] at ya
          have GZ : Hid (v1.heap[V]? = some (.cells paintZ 40 (0, 0))) := Lib.hid ((hf.block V (by have := SV.out; omega) (by have := VX.out; omega)).trans GA.out)
          have NV : Hid (¬ D' V) := Lib.hid (fun h => by have := SV.out; rcases hD' V h with h1 | h1; have := DV.out V h1; omega; omega)
          have BZ := Lib.hid b1
          have IZ := Lib.hid ha
          clear hf hD' ha hp b1
          refine hKK.out _ _ ⟨xa, ya⟩ (fun hSw => ?_)
          clear hKK KK
          (try simp only [Act.put, List.setIfInBounds_toArray, List.set_cons_zero, List.set_cons_succ, List.getElem_toArray, List.getElem_cons_succ, List.getElem_cons_zero])
          refine wpAnyH_take (i := 13) (v := ?_) rfl (by kernel_rfl) (by kernel_rfl) (by kernel_rfl) (fun _ _ _ h => h) (Or.inl ⟨by rfl, ?_⟩) hSw ?_
          rotate_left
          · (intro wS hSx; (try dsimp only at hSx); go_simp)
            all_goals with_reducible rfl
          (try simp only [Act.put, List.setIfInBounds_toArray, List.set_cons_zero, List.set_cons_succ, List.getElem_toArray, List.getElem_cons_succ, List.getElem_cons_zero])
          refine wpAnyH_take (i := 14) (v := ?_) rfl (by kernel_rfl) (by kernel_rfl) (by kernel_rfl) (fun _ _ _ h => h) (Or.inl ⟨by rfl, ?_⟩) hSw ?_
          rotate_left
          · (intro wS hSx; (try dsimp only at hSx); go_simp)
            all_goals with_reducible rfl
          (try simp only [Act.put, List.setIfInBounds_toArray, List.set_cons_zero, List.set_cons_succ, List.getElem_toArray, List.getElem_cons_succ, List.getElem_cons_zero])
          refine wpAnyH_take (i := 15) (v := ?_) rfl (by kernel_rfl) (by kernel_rfl) (by kernel_rfl) (fun _ _ _ h => h) (Or.inl ⟨by rfl, ?_⟩) hSw ?_
          rotate_left
          · (intro wS hSx; (try dsimp only at hSx); go_simp)
            all_goals with_reducible rfl
          (try simp only [Act.put, List.setIfInBounds_toArray, List.set_cons_zero, List.set_cons_succ, List.getElem_toArray, List.getElem_cons_succ, List.getElem_cons_zero])
          obtain ⟨vz, hvz⟩ : ∃ vz, vz = v1 := ⟨_, rfl⟩
          rw [← hvz] at GZ BZ IZ hSw ⊢
          clear hvz GA SV DV IV BV AV
          refine wpAnyH_ready (rs := [17]) (by kernel_rfl) (by simp) ?_
          refine AllReadyH.cons rfl (fun KK hKK => ?_) AllReadyH.nil
          refine step_store_row rfl 40 (.tmp 8) (.tmp 41) rfl V (paintL q0 q1 q2 q3 q4 q5 q6 q7 q8 q9 q10 q11 q12 q13) rfl rfl 40 paintZ GZ.out Try.size40 rfl (paintL_one _ _ _ _ _ _ _ _ _ _ _ _ _ _) ?_
          have xa := (setRow_other vz V A (paintL q0 q1 q2 q3 q4 q5 q6 q7 q8 q9 q10 q11 q12 q13) (by have := VA.out; omega)).trans hSw.1
          have BF := Lib.hid (below_setRow BZ.out VW.out (paintL q0 q1 q2 q3 q4 q5 q6 q7 q8 q9 q10 q11 q12 q13))
          have IF := Lib.hid (IZ.out.frm ((FrmA.refl vz V).row (paintL q0 q1 q2 q3 q4 q5 q6 q7 q8 q9 q10 q11 q12 q13)) NV.out (by have := VX.out; omega))
          obtain ⟨wf, hwf⟩ : ∃ wf, wf = vz.setRow V (paintL q0 q1 q2 q3 q4 q5 q6 q7 q8 q9 q10 q11 q12 q13) := ⟨_, rfl⟩
          rw [← hwf] at xa BF IF ⊢
          have ya := row_cell (IDS.out wf BF.out) hkn
          rw [← HF.out] at ya
          clear hwf GZ BZ IZ
          refine hKK.out _ _ ⟨xa, ya⟩ (fun hSw => ?_)
          clear hKK KK
          (try simp only [Act.put, List.setIfInBounds_toArray, List.getElem_toArray])
          refine wpAnyH_ready (rs := [18]) (by kernel_rfl) (by simp) ?_
          refine AllReadyH.cons rfl (fun KK hKK => ?_) AllReadyH.nil
          go_simp
          have xa := hSw.1
          have ya := hSw.2
          refine hKK.out _ _ ⟨xa, ya⟩ (fun hSw => ?_)
          clear hKK KK
          (try simp only [Act.put, List.setIfInBounds_toArray, List.set_cons_zero, List.set_cons_succ, List.getElem_toArray, List.getElem_cons_succ, List.getElem_cons_zero])
          refine wpAnyH_done (by kernel_rfl) ?_ _
          have XF := Lib.hid hSw.1
          have c4 := hSw.2
          clear hSw NV VA VW VX xa ya
          as_aux_lemma =>
          go_upto_region 10 with (fail)
          have CR := RR.out id wf.drew BF.out.drew
          have CC := Lib.hid CR
          clear CR
          refine wp_region_held_drew (S := (fun w' => w'.heap[A]? = some (.cells #[s0, s1, s2, s3, s4, s5, s6, hd, mt, rm, gl, pc, it] 31 (0, 0)) ∧ w'.cell? ⟨g, off + k, none⟩ = some (.int .i64 id))) (by kernel_rfl) ⟨XF.out, c4⟩ (fun hSw => ?_)
          refine wpAnyH_take (i := 0) (v := ?_) rfl (by kernel_rfl) (by kernel_rfl) (by kernel_rfl) (fun _ _ _ h => h) (Or.inl ⟨by rfl, ?_⟩) hSw ?_
          rotate_left
          · (intro wS hSx; (try dsimp only at hSx); go_simp)
            all_goals with_reducible rfl
          (try simp only [Act.put, List.setIfInBounds_toArray, List.set_cons_zero, List.set_cons_succ, List.getElem_toArray, List.getElem_cons_zero])
          refine wpAnyH_take (i := 1) (v := ?_) rfl (by kernel_rfl) (by kernel_rfl) (by kernel_rfl) (fun _ _ _ h => h) (Or.inl ⟨by rfl, ?_⟩) hSw ?_
          rotate_left
          · (intro wS hSx; (try dsimp only at hSx); go_simp)
            all_goals with_reducible rfl
          (try simp only [Act.put, List.setIfInBounds_toArray, List.set_cons_zero, List.set_cons_succ, List.getElem_toArray, List.getElem_cons_succ, List.getElem_cons_zero])
          refine wpAnyH_take (i := 2) (v := ?_) rfl (by kernel_rfl) (by kernel_rfl) (by kernel_rfl) (fun _ _ _ h => h) (Or.inl ⟨by rfl, ?_⟩) hSw ?_
          rotate_left
          · (intro wS hSx; (try dsimp only at hSx); go_simp)
            all_goals with_reducible rfl
          (try simp only [Act.put, List.setIfInBounds_toArray, List.set_cons_zero, List.set_cons_succ, List.getElem_toArray, List.getElem_cons_succ, List.getElem_cons_zero])
          refine wpAnyH_take (i := 3) (v := ?_) rfl (by kernel_rfl) (by kernel_rfl) (by kernel_rfl) (fun _ _ _ h => h) (Or.inl ⟨by rfl, ?_⟩) hSw ?_
          rotate_left
          · (intro wS hSx; (try dsimp only at hSx); go_simp)
            all_goals with_reducible rfl
          (try simp only [Act.put, List.setIfInBounds_toArray, List.set_cons_zero, List.set_cons_succ, List.getElem_toArray, List.getElem_cons_succ, List.getElem_cons_zero])
          refine wpAnyH_take (i := 4) (v := ?_) rfl (by kernel_rfl) (by kernel_rfl) (by kernel_rfl) (fun _ _ _ h => h) (Or.inl ⟨by rfl, ?_⟩) hSw ?_
          rotate_left
          · (intro wS hSx; (try dsimp only at hSx); go_simp)
            all_goals with_reducible rfl
          (try simp only [Act.put, List.setIfInBounds_toArray, List.set_cons_zero, List.set_cons_succ, List.getElem_toArray, List.getElem_cons_succ, List.getElem_cons_zero])
          refine wpAnyH_take (i := 5) (v := ?_) rfl (by kernel_rfl) (by kernel_rfl) (by kernel_rfl) (fun _ _ _ h => h) (Or.inl ⟨by rfl, ?_⟩) hSw ?_
          rotate_left
          · (intro wS hSx; (try dsimp only at hSx); go_simp)
            all_goals with_reducible rfl
          (try simp only [Act.put, List.setIfInBounds_toArray, List.set_cons_zero, List.set_cons_succ, List.getElem_toArray, List.getElem_cons_succ, List.getElem_cons_zero])
          refine wpAnyH_take (i := 6) (v := ?_) rfl (by kernel_rfl) (by kernel_rfl) (by kernel_rfl) (fun _ _ _ h => h) (Or.inl ⟨by rfl, ?_⟩) hSw ?_
          rotate_left
          · (intro wS hSx; (try dsimp only at hSx); go_simp)
            all_goals with_reducible rfl
          (try simp only [Act.put, List.setIfInBounds_toArray, List.set_cons_zero, List.set_cons_succ, List.getElem_toArray, List.getElem_cons_succ, List.getElem_cons_zero])
          refine wpAnyH_take (i := 7) (v := ?_) rfl (by kernel_rfl) (by kernel_rfl) (by kernel_rfl) (fun _ _ _ h => h) (Or.inl ⟨by rfl, ?_⟩) hSw ?_
          rotate_left
          · (intro wS hSx; (try dsimp only at hSx); go_simp)
            all_goals with_reducible rfl
          (try simp only [Act.put, List.setIfInBounds_toArray, List.set_cons_zero, List.set_cons_succ, List.getElem_toArray, List.getElem_cons_succ, List.getElem_cons_zero])
          refine wpAnyH_take (i := 8) (v := ?_) rfl (by kernel_rfl) (by kernel_rfl) (by kernel_rfl) (fun _ _ _ h => h) (Or.inl ⟨by rfl, ?_⟩) hSw ?_
          rotate_left
          · (intro wS hSx; (try dsimp only at hSx); go_simp)
            all_goals with_reducible rfl
          (try simp only [Act.put, List.setIfInBounds_toArray, List.set_cons_zero, List.set_cons_succ, List.getElem_toArray, List.getElem_cons_succ, List.getElem_cons_zero])
          simp only [PM.out]
          cases pl
          · refine wpAnyH_take (i := 9) (v := .agg #[s0, s1, s2, s3, s4, s5, s6, hd, mt, rm, gl, pc, it]) rfl (by kernel_rfl) (by kernel_rfl) (by kernel_rfl) (fun _ _ _ h => h) (yields_row (by rfl) 31 (.tmp 2) rfl A rfl 31 _ (0, 0) _ (fun _ h => h.1) HS31.out rfl Try.size31) hSw ?_
            (try simp only [Act.put, List.setIfInBounds_toArray, List.set_cons_zero, List.set_cons_succ, List.getElem_toArray, List.getElem_cons_succ, List.getElem_cons_zero])
            refine wpAnyH_take (i := 10) (v := ?_) rfl (by kernel_rfl) (by kernel_rfl) (by kernel_rfl) (fun _ _ _ h => h) (Or.inl ⟨by rfl, ?_⟩) hSw ?_
            rotate_left
            · (intro wS hSx; (try dsimp only at hSx); go_simp)
              all_goals with_reducible rfl
            (try simp only [Act.put, List.setIfInBounds_toArray, List.set_cons_zero, List.set_cons_succ, List.getElem_toArray, List.getElem_cons_succ, List.getElem_cons_zero])
            refine wpAnyH_take (i := 11) (v := ?_) rfl (by kernel_rfl) (by kernel_rfl) (by kernel_rfl) (fun _ _ _ h => h) (Or.inl ⟨by rfl, ?_⟩) hSw ?_
            rotate_left
            · (intro wS hSx; (try dsimp only at hSx); go_simp)
              all_goals with_reducible rfl
            (try simp only [Act.put, List.setIfInBounds_toArray, List.set_cons_zero, List.set_cons_succ, List.getElem_toArray, List.getElem_cons_succ, List.getElem_cons_zero])
            refine wpAnyH_take (i := 12) (v := ?_) rfl (by kernel_rfl) (by kernel_rfl) (by kernel_rfl) (fun _ _ _ h => h) (Or.inl ⟨by rfl, ?_⟩) hSw ?_
            rotate_left
            · (intro wS hSx; (try dsimp only at hSx); go_simp)
              all_goals with_reducible rfl
            (try simp only [Act.put, List.setIfInBounds_toArray, List.set_cons_zero, List.set_cons_succ, List.getElem_toArray, List.getElem_cons_succ, List.getElem_cons_zero])
            refine wpAnyH_take (i := 13) (v := ?_) rfl (by kernel_rfl) (by kernel_rfl) (by kernel_rfl) (fun _ _ _ h => h) (Or.inl ⟨by rfl, ?_⟩) hSw ?_
            rotate_left
            · (intro wS hSx; (try dsimp only at hSx); go_simp)
              all_goals with_reducible rfl
            (try simp only [Act.put, List.setIfInBounds_toArray, List.set_cons_zero, List.set_cons_succ, List.getElem_toArray, List.getElem_cons_succ, List.getElem_cons_zero])
            refine wpAnyH_ready (rs := [14]) (by kernel_rfl) (by simp) ?_
            refine AllReadyH.cons rfl (fun KK hKK => ?_) AllReadyH.nil
            go_simp
            refine CC.out.mono ?_
            rintro e v2 ⟨rfl, hbd⟩
            have hb2 : Below wf.heap.size wf v2 := bel_drew hbd
            refine hKK.out _ _ ⟨(hb2.block A (Array.getElem?_eq_some_iff.1 XF.out).1).trans XF.out, cell_later hb2 c4⟩ (fun hSw => ?_)
            clear hKK KK CC hbd
            (try simp only [Act.put, List.setIfInBounds_toArray, List.set_cons_zero, List.set_cons_succ, List.getElem_toArray, List.getElem_cons_succ, List.getElem_cons_zero])
            rcases PI.out with ⟨h, _⟩ | ⟨_, h1, _, rfl⟩ | ⟨_, p, _, h1, _, rfl⟩
            · cases h
            all_goals
              simp only [h1]
              refine wpAnyH_take (i := 15) (v := ?_) rfl (by kernel_rfl) (by kernel_rfl) (by kernel_rfl) (fun _ _ _ h => h) (Or.inl ⟨by rfl, ?_⟩) hSw ?_
              rotate_left
              · (intro wS hSx; (try dsimp only at hSx); go_simp)
                all_goals with_reducible rfl
              (try simp only [Act.put, List.setIfInBounds_toArray, List.set_cons_zero, List.set_cons_succ, List.getElem_toArray, List.getElem_cons_succ, List.getElem_cons_zero])
              refine wpAnyH_take (i := 16) (v := ?_) rfl (by kernel_rfl) (by kernel_rfl) (by kernel_rfl) (fun _ _ _ h => h) (Or.inl ⟨by rfl, ?_⟩) hSw ?_
              rotate_left
              · (intro wS hSx; (try dsimp only at hSx); go_simp)
                all_goals with_reducible rfl
              (try simp only [Act.put, List.setIfInBounds_toArray, List.set_cons_zero, List.set_cons_succ, List.getElem_toArray, List.getElem_cons_succ, List.getElem_cons_zero])
              refine wpAnyH_take (i := 17) (v := ?_) rfl (by kernel_rfl) (by kernel_rfl) (by kernel_rfl) (fun _ _ _ h => h) (Or.inl ⟨by rfl, ?_⟩) hSw ?_
              rotate_left
              · (intro wS hSx; (try dsimp only at hSx); go_simp)
                all_goals with_reducible rfl
              (try simp only [Act.put, List.setIfInBounds_toArray, List.set_cons_zero, List.set_cons_succ, List.getElem_toArray, List.getElem_cons_succ, List.getElem_cons_zero])
              refine wpAnyH_ready (rs := [18]) (by kernel_rfl) (by simp) ?_
              refine AllReadyH.cons rfl (fun KK hKK => ?_) AllReadyH.nil
              go_simp
              refine hKK.out _ _ hSw (fun hSw => ?_)
              clear hKK KK
              (try simp only [Act.put, List.setIfInBounds_toArray, List.set_cons_zero, List.set_cons_succ, List.getElem_toArray, List.getElem_cons_succ, List.getElem_cons_zero])
              refine wpAnyH_done (by kernel_rfl) ?_ _
              clear hSw c4
              have B4 := BF
              have I4 : Hid (IdxA S X wf) := Lib.hid ⟨_, IF.out⟩
              have X4 := XF
              have A4 : Hid (A < wf.heap.size) := Lib.hid (Array.getElem?_eq_some_iff.1 X4.out).1
              have hbc := hb2
              have B5 := Lib.hid (bthen B4.out hbc)
              have I5 := Lib.hid (I4.out.later hbc)
              have X5 : Hid (v2.heap[A]? = some (.cells #[s0, s1, s2, s3, s4, s5, s6, hd, mt, rm, gl, pc, it] 31 (0, 0))) := Lib.hid ((hbc.block A A4.out).trans X4.out)
              have A5 : Hid (A < v2.heap.size) := Lib.hid (Array.getElem?_eq_some_iff.1 X5.out).1
              clear hbc hb2
              go_wp2_with fail
              refine (made_asked S X v2 I5.out).mono ?_
              rintro e w6 ⟨rfl, hb6⟩
              have B6 := Lib.hid (bthen B5.out hb6)
              have I6 := Lib.hid (I5.out.later hb6)
              have X6 : Hid (w6.heap[A]? = some (.cells #[s0, s1, s2, s3, s4, s5, s6, hd, mt, rm, gl, pc, it] 31 (0, 0))) := Lib.hid ((hb6.block A A5.out).trans X5.out)
              clear hb6
              go_wp2_with fail
              exact ⟨⟨k + 1, by go_num, by omega, by omega, B6, X6, Lib.hid (.inr I6.out)⟩, by (first | (simp [intOf]; done) | (simp [intOf]; omega) | (simp only [intOf]; omega))⟩
          · refine wpAnyH_take (i := 9) (v := undef) rfl (by kernel_rfl) (by kernel_rfl) (by kernel_rfl) (fun _ _ _ h => h) (Or.inr ⟨by rfl, rfl⟩) hSw ?_
            (try simp only [Act.put, List.setIfInBounds_toArray, List.set_cons_zero, List.set_cons_succ, List.getElem_toArray, List.getElem_cons_succ, List.getElem_cons_zero])
            refine wpAnyH_take (i := 10) (v := undef) rfl (by kernel_rfl) (by kernel_rfl) (by kernel_rfl) (fun _ _ _ h => h) (Or.inr ⟨by rfl, rfl⟩) hSw ?_
            (try simp only [Act.put, List.setIfInBounds_toArray, List.set_cons_zero, List.set_cons_succ, List.getElem_toArray, List.getElem_cons_succ, List.getElem_cons_zero])
            refine wpAnyH_take (i := 11) (v := undef) rfl (by kernel_rfl) (by kernel_rfl) (by kernel_rfl) (fun _ _ _ h => h) (Or.inr ⟨by rfl, rfl⟩) hSw ?_
            (try simp only [Act.put, List.setIfInBounds_toArray, List.set_cons_zero, List.set_cons_succ, List.getElem_toArray, List.getElem_cons_succ, List.getElem_cons_zero])
            refine wpAnyH_take (i := 12) (v := undef) rfl (by kernel_rfl) (by kernel_rfl) (by kernel_rfl) (fun _ _ _ h => h) (Or.inr ⟨by rfl, rfl⟩) hSw ?_
            (try simp only [Act.put, List.setIfInBounds_toArray, List.set_cons_zero, List.set_cons_succ, List.getElem_toArray, List.getElem_cons_succ, List.getElem_cons_zero])
            refine wpAnyH_take (i := 13) (v := undef) rfl (by kernel_rfl) (by kernel_rfl) (by kernel_rfl) (fun _ _ _ h => h) (Or.inr ⟨by rfl, rfl⟩) hSw ?_
            (try simp only [Act.put, List.setIfInBounds_toArray, List.set_cons_zero, List.set_cons_succ, List.getElem_toArray, List.getElem_cons_succ, List.getElem_cons_zero])
            refine wpAnyH_ready (rs := [14]) (by kernel_rfl) (by simp) ?_
            refine AllReadyH.cons rfl (fun KK hKK => ?_) AllReadyH.nil
            go_simp
            go_simp
            refine hKK.out _ _ hSw (fun hSw => ?_)
            clear hKK KK
            (try simp only [Act.put, List.setIfInBounds_toArray, List.set_cons_zero, List.set_cons_succ, List.getElem_toArray, List.getElem_cons_succ, List.getElem_cons_zero])
            refine wpAnyH_take (i := 15) (v := undef) rfl (by kernel_rfl) (by kernel_rfl) (by kernel_rfl) (fun _ _ _ h => h) (Or.inr ⟨by rfl, rfl⟩) hSw ?_
            (try simp only [Act.put, List.setIfInBounds_toArray, List.set_cons_zero, List.set_cons_succ, List.getElem_toArray, List.getElem_cons_succ, List.getElem_cons_zero])
            rcases PI.out with ⟨_, _, rfl⟩ | ⟨h, _⟩ | ⟨h, _⟩
            rotate_left
            · cases h
            · cases h
            refine wpAnyH_take (i := 16) (v := ?_) rfl (by kernel_rfl) (by kernel_rfl) (by kernel_rfl) (fun _ _ _ h => h) (Or.inl ⟨by rfl, ?_⟩) hSw ?_
            rotate_left
            · (intro wS hSx; (try dsimp only at hSx); go_simp)
              all_goals with_reducible rfl
            (try simp only [Act.put, List.setIfInBounds_toArray, List.set_cons_zero, List.set_cons_succ, List.getElem_toArray, List.getElem_cons_succ, List.getElem_cons_zero])
            refine wpAnyH_take (i := 17) (v := ?_) rfl (by kernel_rfl) (by kernel_rfl) (by kernel_rfl) (fun _ _ _ h => h) (Or.inl ⟨by rfl, ?_⟩) hSw ?_
            rotate_left
            · (intro wS hSx; (try dsimp only at hSx); go_simp)
              all_goals with_reducible rfl
            (try simp only [Act.put, List.setIfInBounds_toArray, List.set_cons_zero, List.set_cons_succ, List.getElem_toArray, List.getElem_cons_succ, List.getElem_cons_zero])
            refine wpAnyH_ready (rs := [18]) (by kernel_rfl) (by simp) ?_
            refine AllReadyH.cons rfl (fun KK hKK => ?_) AllReadyH.nil
            go_simp
            refine hKK.out _ _ hSw (fun hSw => ?_)
            clear hKK KK
            (try simp only [Act.put, List.setIfInBounds_toArray, List.set_cons_zero, List.set_cons_succ, List.getElem_toArray, List.getElem_cons_succ, List.getElem_cons_zero])
            refine wpAnyH_done (by kernel_rfl) ?_ _
            clear hSw c4
            have hb2 : Below wf.heap.size wf wf.drew := (Below.refl _ _).drew
            obtain ⟨v2, hv2⟩ : ∃ v2, v2 = wf.drew := ⟨_, rfl⟩
            rw [← hv2] at hb2 ⊢
            clear hv2
            have B4 := BF
            have I4 : Hid (IdxA S X wf) := Lib.hid ⟨_, IF.out⟩
            have X4 := XF
            have A4 : Hid (A < wf.heap.size) := Lib.hid (Array.getElem?_eq_some_iff.1 X4.out).1
            have hbc := hb2
            have B5 := Lib.hid (bthen B4.out hbc)
            have I5 := Lib.hid (I4.out.later hbc)
            have X5 : Hid (v2.heap[A]? = some (.cells #[s0, s1, s2, s3, s4, s5, s6, hd, mt, rm, gl, pc, it] 31 (0, 0))) := Lib.hid ((hbc.block A A4.out).trans X4.out)
            have A5 : Hid (A < v2.heap.size) := Lib.hid (Array.getElem?_eq_some_iff.1 X5.out).1
            clear hbc hb2
            go_wp2_with fail
            refine (made_asked S X v2 I5.out).mono ?_
            rintro e w6 ⟨rfl, hb6⟩
            have B6 := Lib.hid (bthen B5.out hb6)
            have I6 := Lib.hid (I5.out.later hb6)
            have X6 : Hid (w6.heap[A]? = some (.cells #[s0, s1, s2, s3, s4, s5, s6, hd, mt, rm, gl, pc, it] 31 (0, 0))) := Lib.hid ((hb6.block A A5.out).trans X5.out)
            clear hb6
            go_wp2_with fail
            exact ⟨⟨k + 1, by go_num, by omega, by omega, B6, X6, Lib.hid (.inr I6.out)⟩, by (first | (simp [intOf]; done) | (simp [intOf]; omega) | (simp only [intOf]; omega))⟩
    · have hend : (¬ (k : Int) < (n : Int)) ∨ ((k : Int) < (n : Int) ∧ ¬ (k : Int) < 20) := by omega
      rcases hend with h1 | ⟨h1, h2⟩
      all_goals
        go_upto_region 22 with (fail)
        refine wp_region_held_drew (S := fun w' => w'.heap[A]? = some (.cells #[s0, s1, s2, s3, s4, s5, s6, hd, mt, rm, gl, pc, it] 31 (0, 0))) (by kernel_rfl) hx.out (fun hSw => ?_)
        have BV0 : Hid (Below w.heap.size w wr.drew) := Lib.hid hb.out.drew
        have AV0 : Hid (A < wr.drew.heap.size) := Lib.hid (Array.getElem?_eq_some_iff.1 hx.out).1
        have IV0 : Hid (IdxF S X wr.drew ∨ IdxA S X wr.drew) := Lib.hid (hi.out.elim (fun h => .inl (h.later (Below.refl _ _).drew)) (fun h => .inr (h.later (Below.refl _ _).drew)))
        refine wpAnyH_take (i := 0) (v := ?_) rfl (by kernel_rfl) (by kernel_rfl) (by kernel_rfl) (fun _ _ _ h => h) (Or.inl ⟨by rfl, ?_⟩) hSw ?_
        rotate_left
        · (intro wS hSx; (try dsimp only at hSx); go_simp)
          all_goals with_reducible rfl
        (try simp only [Act.put, List.setIfInBounds_toArray, List.set_cons_zero, List.set_cons_succ, List.getElem_toArray, List.getElem_cons_zero])
        refine wpAnyH_take (i := 2) (v := .agg #[s0, s1, s2, s3, s4, s5, s6, hd, mt, rm, gl, pc, it]) rfl (by kernel_rfl) (by kernel_rfl) (by kernel_rfl) (fun _ _ _ h => h) (yields_row (by rfl) 31 (.tmp 2) rfl A rfl 31 _ (0, 0) _ (fun _ h => h) HS31.out rfl Try.size31) hSw ?_
        (try simp only [Act.put, List.setIfInBounds_toArray, List.set_cons_zero, List.set_cons_succ, List.getElem_toArray, List.getElem_cons_succ, List.getElem_cons_zero])
        refine wpAnyH_ready (rs := [1]) (by kernel_rfl) (by simp) ?_
        refine AllReadyH.cons rfl (fun KK hKK => ?_) AllReadyH.nil
        go_simp
        refine (WI.out X wr.drew IV0.out).mono ?_
        rintro e v1 ⟨rfl, hf, ha⟩
        have b : Below w.heap.size w v1 := BV0.out.trans (hf.below WX.out BV0.out.size)
        have xa := (hf.block A (AV0.out) (by have := AX.out; omega)).trans hSw
        have BV1 := Lib.hid b
        have IV1 := Lib.hid ha
        have AV1 : Hid (A < v1.heap.size) := Lib.hid (Nat.lt_of_lt_of_le AV0.out hf.size)
        clear hf ha b
        refine hKK.out _ _ xa (fun hSw => ?_)
        clear hKK KK
        (try simp only [Act.put, List.setIfInBounds_toArray, List.set_cons_zero, List.set_cons_succ, List.getElem_toArray, List.getElem_cons_succ, List.getElem_cons_zero])
        refine wpAnyH_ready (rs := [3]) (by kernel_rfl) (by simp) ?_
        refine AllReadyH.cons rfl (fun KK hKK => ?_) AllReadyH.nil
        go_simp
        refine (WR.out v1 BV1.out).mono ?_
        rintro e v2 ⟨rfl, hbx⟩
        have xa := (hbx.block A (AV1.out)).trans hSw
        have BV2 := Lib.hid (bthen BV1.out hbx)
        have IV2 := Lib.hid (IV1.out.later hbx)
        have AV2 : Hid (A < v2.heap.size) := Lib.hid (Nat.lt_of_lt_of_le AV1.out hbx.size)
        clear hbx
        refine hKK.out _ _ xa (fun hSw => ?_)
        clear hKK KK
        (try simp only [Act.put, List.setIfInBounds_toArray, List.set_cons_zero, List.set_cons_succ, List.getElem_toArray, List.getElem_cons_succ, List.getElem_cons_zero])
        refine wpAnyH_take (i := 4) (v := ?_) rfl (by kernel_rfl) (by kernel_rfl) (by kernel_rfl) (fun _ _ _ h => h) (Or.inl ⟨by rfl, ?_⟩) hSw ?_
        rotate_left
        · (intro wS hSx; (try dsimp only at hSx); go_simp)
          all_goals with_reducible rfl
        (try simp only [Act.put, List.setIfInBounds_toArray, List.set_cons_zero, List.set_cons_succ, List.getElem_toArray, List.getElem_cons_succ, List.getElem_cons_zero])
        refine wpAnyH_take (i := 5) (v := ?_) rfl (by kernel_rfl) (by kernel_rfl) (by kernel_rfl) (fun _ _ _ h => h) (Or.inl ⟨by rfl, ?_⟩) hSw ?_
        rotate_left
        · (intro wS hSx; (try dsimp only at hSx); go_simp)
          all_goals with_reducible rfl
        (try simp only [Act.put, List.setIfInBounds_toArray, List.set_cons_zero, List.set_cons_succ, List.getElem_toArray, List.getElem_cons_succ, List.getElem_cons_zero])
        refine wpAnyH_take (i := 6) (v := ?_) rfl (by kernel_rfl) (by kernel_rfl) (by kernel_rfl) (fun _ _ _ h => h) (Or.inl ⟨by rfl, ?_⟩) hSw ?_
        rotate_left
        · (intro wS hSx; (try dsimp only at hSx); go_simp)
          all_goals with_reducible rfl
        (try simp only [Act.put, List.setIfInBounds_toArray, List.set_cons_zero, List.set_cons_succ, List.getElem_toArray, List.getElem_cons_succ, List.getElem_cons_zero])
        refine wpAnyH_take (i := 8) (v := .agg #[s0, s1, s2, s3, s4, s5, s6, hd, mt, rm, gl, pc, it]) rfl (by kernel_rfl) (by kernel_rfl) (by kernel_rfl) (fun _ _ _ h => h) (yields_row (by rfl) 31 (.tmp 2) rfl A rfl 31 _ (0, 0) _ (fun _ h => h) HS31.out rfl Try.size31) hSw ?_
        (try simp only [Act.put, List.setIfInBounds_toArray, List.set_cons_zero, List.set_cons_succ, List.getElem_toArray, List.getElem_cons_succ, List.getElem_cons_zero])
        refine wpAnyH_ready (rs := [7]) (by kernel_rfl) (by simp) ?_
        refine AllReadyH.cons rfl (fun KK hKK => ?_) AllReadyH.nil
        go_simp
        refine (WI.out X v2 (.inr IV2.out)).mono ?_
        rintro e v3 ⟨rfl, hf, ha⟩
        have b : Below w.heap.size w v3 := BV2.out.trans (hf.below WX.out BV2.out.size)
        have xa := (hf.block A (AV2.out) (by have := AX.out; omega)).trans hSw
        have BV3 := Lib.hid b
        have IV3 := Lib.hid ha
        have AV3 : Hid (A < v3.heap.size) := Lib.hid (Nat.lt_of_lt_of_le AV2.out hf.size)
        clear hf ha b
        refine hKK.out _ _ xa (fun hSw => ?_)
        clear hKK KK
        (try simp only [Act.put, List.setIfInBounds_toArray, List.set_cons_zero, List.set_cons_succ, List.getElem_toArray, List.getElem_cons_succ, List.getElem_cons_zero])
        refine wpAnyH_ready (rs := [9]) (by kernel_rfl) (by simp) ?_
        refine AllReadyH.cons rfl (fun KK hKK => ?_) AllReadyH.nil
        go_simp
        refine (WR.out v3 BV3.out).mono ?_
        rintro e v4 ⟨rfl, hbx⟩
        have xa := (hbx.block A (AV3.out)).trans hSw
        have BV4 := Lib.hid (bthen BV3.out hbx)
        have IV4 := Lib.hid (IV3.out.later hbx)
        have AV4 : Hid (A < v4.heap.size) := Lib.hid (Nat.lt_of_lt_of_le AV3.out hbx.size)
        clear hbx
        refine hKK.out _ _ xa (fun hSw => ?_)
        clear hKK KK
        (try simp only [Act.put, List.setIfInBounds_toArray, List.set_cons_zero, List.set_cons_succ, List.getElem_toArray, List.getElem_cons_succ, List.getElem_cons_zero])
        refine wpAnyH_take (i := 10) (v := ?_) rfl (by kernel_rfl) (by kernel_rfl) (by kernel_rfl) (fun _ _ _ h => h) (Or.inl ⟨by rfl, ?_⟩) hSw ?_
        rotate_left
        · (intro wS hSx; (try dsimp only at hSx); go_simp)
          all_goals with_reducible rfl
        (try simp only [Act.put, List.setIfInBounds_toArray, List.set_cons_zero, List.set_cons_succ, List.getElem_toArray, List.getElem_cons_succ, List.getElem_cons_zero])
        refine wpAnyH_take (i := 11) (v := ?_) rfl (by kernel_rfl) (by kernel_rfl) (by kernel_rfl) (fun _ _ _ h => h) (Or.inl ⟨by rfl, ?_⟩) hSw ?_
        rotate_left
        · (intro wS hSx; (try dsimp only at hSx); go_simp)
          all_goals with_reducible rfl
        (try simp only [Act.put, List.setIfInBounds_toArray, List.set_cons_zero, List.set_cons_succ, List.getElem_toArray, List.getElem_cons_succ, List.getElem_cons_zero])
        refine wpAnyH_take (i := 12) (v := ?_) rfl (by kernel_rfl) (by kernel_rfl) (by kernel_rfl) (fun _ _ _ h => h) (Or.inl ⟨by rfl, ?_⟩) hSw ?_
        rotate_left
        · (intro wS hSx; (try dsimp only at hSx); go_simp)
          all_goals with_reducible rfl
        (try simp only [Act.put, List.setIfInBounds_toArray, List.set_cons_zero, List.set_cons_succ, List.getElem_toArray, List.getElem_cons_succ, List.getElem_cons_zero])
        refine wpAnyH_take (i := 13) (v := ?_) rfl (by kernel_rfl) (by kernel_rfl) (by kernel_rfl) (fun _ _ _ h => h) (Or.inl ⟨by rfl, ?_⟩) hSw ?_
        rotate_left
        · (intro wS hSx; (try dsimp only at hSx); go_simp)
          all_goals with_reducible rfl
        (try simp only [Act.put, List.setIfInBounds_toArray, List.set_cons_zero, List.set_cons_succ, List.getElem_toArray, List.getElem_cons_succ, List.getElem_cons_zero])
        refine wpAnyH_ready (rs := [14]) (by kernel_rfl) (by simp) ?_
        refine AllReadyH.cons rfl (fun KK hKK => ?_) AllReadyH.nil
        go_simp
        refine (made_asked S X v4 IV4.out).mono ?_
        rintro e v5 ⟨rfl, hbx⟩
        have xa := (hbx.block A (AV4.out)).trans hSw
        have BV5 := Lib.hid (bthen BV4.out hbx)
        have IV5 := Lib.hid (IV4.out.later hbx)
        have AV5 : Hid (A < v5.heap.size) := Lib.hid (Nat.lt_of_lt_of_le AV4.out hbx.size)
        clear hbx
        refine hKK.out _ _ xa (fun hSw => ?_)
        clear hKK KK
        (try simp only [Act.put, List.setIfInBounds_toArray, List.set_cons_zero, List.set_cons_succ, List.getElem_toArray, List.getElem_cons_succ, List.getElem_cons_zero])
        refine wpAnyH_take (i := 15) (v := ?_) rfl (by kernel_rfl) (by kernel_rfl) (by kernel_rfl) (fun _ _ _ h => h) (Or.inl ⟨by rfl, ?_⟩) hSw ?_
        rotate_left
        · (intro wS hSx; (try dsimp only at hSx); go_simp)
          all_goals with_reducible rfl
        (try simp only [Act.put, List.setIfInBounds_toArray, List.set_cons_zero, List.set_cons_succ, List.getElem_toArray, List.getElem_cons_succ, List.getElem_cons_zero])
        refine wpAnyH_take (i := 16) (v := ?_) rfl (by kernel_rfl) (by kernel_rfl) (by kernel_rfl) (fun _ _ _ h => h) (Or.inl ⟨by rfl, ?_⟩) hSw ?_
        rotate_left
        · (intro wS hSx; (try dsimp only at hSx); go_simp)
          all_goals with_reducible rfl
        (try simp only [Act.put, List.setIfInBounds_toArray, List.set_cons_zero, List.set_cons_succ, List.getElem_toArray, List.getElem_cons_succ, List.getElem_cons_zero])
        refine wpAnyH_take (i := 17) (v := ?_) rfl (by kernel_rfl) (by kernel_rfl) (by kernel_rfl) (fun _ _ _ h => h) (Or.inl ⟨by rfl, ?_⟩) hSw ?_
        rotate_left
        · (intro wS hSx; (try dsimp only at hSx); go_simp)
          all_goals with_reducible rfl
        (try simp only [Act.put, List.setIfInBounds_toArray, List.set_cons_zero, List.set_cons_succ, List.getElem_toArray, List.getElem_cons_succ, List.getElem_cons_zero])
        refine wpAnyH_ready (rs := [18]) (by kernel_rfl) (by simp) ?_
        refine AllReadyH.cons rfl (fun KK hKK => ?_) AllReadyH.nil
        go_simp
        refine (lives11 v5).mono ?_
        rintro e v6 ⟨rfl, hbx⟩
        have xa := (hbx.block A (AV5.out)).trans hSw
        have BV6 := Lib.hid (bthen BV5.out hbx)
        have IV6 := Lib.hid (IV5.out.later hbx)
        have AV6 : Hid (A < v6.heap.size) := Lib.hid (Nat.lt_of_lt_of_le AV5.out hbx.size)
        clear hbx
        refine hKK.out _ _ xa (fun hSw => ?_)
        clear hKK KK
        (try simp only [Act.put, List.setIfInBounds_toArray, List.set_cons_zero, List.set_cons_succ, List.getElem_toArray, List.getElem_cons_succ, List.getElem_cons_zero])
        refine wpAnyH_take (i := 19) (v := ?_) rfl (by kernel_rfl) (by kernel_rfl) (by kernel_rfl) (fun _ _ _ h => h) (Or.inl ⟨by rfl, ?_⟩) hSw ?_
        rotate_left
        · (intro wS hSx; (try dsimp only at hSx); go_simp)
          all_goals with_reducible rfl
        (try simp only [Act.put, List.setIfInBounds_toArray, List.set_cons_zero, List.set_cons_succ, List.getElem_toArray, List.getElem_cons_succ, List.getElem_cons_zero])
        refine wpAnyH_ready (rs := [20]) (by kernel_rfl) (by simp) ?_
        refine AllReadyH.cons rfl (fun KK hKK => ?_) AllReadyH.nil
        go_simp
        have xa := hSw
        refine hKK.out _ _ xa (fun hSw => ?_)
        clear hKK KK
        (try simp only [Act.put, List.setIfInBounds_toArray, List.set_cons_zero, List.set_cons_succ, List.getElem_toArray, List.getElem_cons_succ, List.getElem_cons_zero])
        refine wpAnyH_done (by kernel_rfl) ?_ _
        clear hSw
        go_wp2_with fail
        go_ret
        exact ⟨rfl, BV6.out⟩
end Go.Proofs.Ytkhdielfnphheaa
