/- Contract of the reference's Wrong. -/
import Derived.Test.YtkhdielfnphheaaRef1
import Derived.Test.YtkhdielfnphheaaRef2
import Derived.Test.YtkhdielfnphheaaLw3
namespace Go.Proofs.Ytkhdielfnphheaa
open Go.RowKit

def onceB (N : Nat → Int) (n : Nat) (i : Nat) : Bool := fstI N (N i) n == (i : Int)
theorem twice_eq (N : Nat → Int) (n : Nat) : twiceB N n = !(allB (onceB N n) n) := rfl
set_option maxRecDepth 100000 in
set_option maxHeartbeats 6400000 in
theorem rwrong14 (S : Sc) (s0 s1 s2 s3 s4 s5 s6 hd mt rm gl pc it : Value) (w : World) (hD : DataV S rm gl pc w) (hH : Row w hd S.nh 1 S.H) (ok : ScOk S) :
    Calls Try.prog 14 #[.agg #[s0, s1, s2, s3, s4, s5, s6, hd, mt, rm, gl, pc, it]] w (RetPost (.int .i64 (wrongS S)) w) := by
  obtain ⟨hp, hc, rfl⟩ := hH.slice
  obtain ⟨rp, rc, rfl⟩ : ∃ a c, rm = .slice a S.nr c := hD.1.slice
  obtain ⟨gp, gc, rfl⟩ : ∃ a c, gl = .slice a S.ng c := by obtain ⟨_, h, _⟩ := hD.2.1; exact h.slice
  obtain ⟨pp, pk, rfl⟩ : ∃ a c, pc = .slice a S.np c := by obtain ⟨_, h, _⟩ := hD.2.2; exact h.slice
  obtain ⟨w1, hw1⟩ : ∃ w1, w1 = w.alloc (.cells #[s0, s1, s2, s3, s4, s5, s6, .slice hp S.nh hc, mt, .slice rp S.nr rc, .slice gp S.ng gc, .slice pp S.np pk, it] 31) := ⟨_, rfl⟩
  obtain ⟨A, hA⟩ : ∃ A, A = w.heap.size := ⟨_, rfl⟩
  have B1 : Hid (Below w.heap.size w w1) := Lib.hid (by rw [hw1]; exact below_alloc _ _)
  have X1 : Hid (w1.heap[A]? = some (.cells #[s0, s1, s2, s3, s4, s5, s6, .slice hp S.nh hc, mt, .slice rp S.nr rc, .slice gp S.ng gc, .slice pp S.np pk, it] 31 (0, 0))) := Lib.hid (by rw [hw1, hA]; exact heap_alloc_new w _)
  have A1 : Hid (A < w1.heap.size) := Lib.hid (Array.getElem?_eq_some_iff.1 X1.out).1
  have XB : Hid (BxAt w1 A [s0, s1, s2, s3, s4, s5, s6, .slice hp S.nh hc, mt, .slice rp S.nr rc, .slice gp S.ng gc, .slice pp S.np pk, it]) := Lib.hid (BxAt.of_heap X1.out)
  have D1 := Lib.hid (hD.later B1.out)
  have OK := Lib.hid ok
  have HW := Lib.hid (And.intro hw1 hA)
  have CR := Lib.hid (fun x (W : World) (hb : Below w1.heap.size w1 W) => rramp17 S s0 s1 s2 s3 s4 s5 s6 (.slice hp S.nh hc) mt it (.slice rp S.nr rc) (.slice gp S.ng gc) (.slice pp S.np pk) x W (hD.later (bthen B1.out hb)) ok)
  have CP := Lib.hid (fun x (W : World) (hb : Below w1.heap.size w1 W) => rpic19 S s0 s1 s2 s3 s4 s5 s6 (.slice hp S.nh hc) mt it (.slice rp S.nr rc) (.slice gp S.ng gc) (.slice pp S.np pk) x W (hD.later (bthen B1.out hb)) ok)
  have CG := Lib.hid (fun x (W : World) (hb : Below w1.heap.size w1 W) => rfind21 S (.slice rp S.nr rc) (.slice gp S.ng gc) (.slice pp S.np pk) x W (hD.later (bthen B1.out hb)) ok)
  obtain ⟨m, hm⟩ : ∃ m, m = wrongS S := ⟨_, rfl⟩
  rw [← hm]
  have E : Hid (m = if manyS S = true then 7 else if (!(allB (onceB (nmR S) S.nr) S.nr) || (!(allB (onceB (nmG S) S.ng) S.ng) || !(allB (onceB (nmP S) S.np) S.np))) = true then 9 else if mayS S = true then 0 else 2) := Lib.hid hm
  have EM : Hid (manyS S = decide (16 < S.nh ∨ 32 < S.nr ∨ 32 < S.ng ∨ 32 < S.np)) := Lib.hid rfl
  have nrb : S.nr ≤ 4000000000000 := by have := ok.br; omega
  have ngb : S.ng ≤ 4000000000000 := by have := ok.bg; omega
  have npb : S.np ≤ 4000000000000 := by have := ok.bp; omega
  have nhb : S.nh ≤ 8000000000000 := by have := ok.bh; omega
  clear hw1 hA hD hH ok hm
  obtain ⟨l31, hs31⟩ := Try.struct31
  have HS31 := Lib.hid hs31
  clear hs31
  have x7 := XB.out.2.2 7 _ rfl
  have x9 := XB.out.2.2 9 _ rfl
  have x10 := XB.out.2.2 10 _ rfl
  have x11 := XB.out.2.2 11 _ rfl
  go_enter Try.func14, Try.ntmps14
  go_upto_region 1 with (fail)
  rw [← HW.out.2, ← HW.out.1]
  by_cases h1 : 16 < S.nh
  · have e : Hid (m = 7) := Lib.hid (by rw [E.out, if_pos (by rw [EM.out]; simp [h1])])
    have h1I : (16 : Int) < (S.nh : Int) := by omega
    go_wp2_with fail
    go_ret
    exact ⟨by rw [e.out]; rfl, B1.out⟩
  have h1I : ¬ (16 : Int) < (S.nh : Int) := by omega
  by_cases h2 : 32 < S.nr
  · have e : Hid (m = 7) := Lib.hid (by rw [E.out, if_pos (by rw [EM.out]; simp [h2])])
    have h2I : (32 : Int) < (S.nr : Int) := by omega
    go_wp2_with fail
    go_ret
    exact ⟨by rw [e.out]; rfl, B1.out⟩
  have h2I : ¬ (32 : Int) < (S.nr : Int) := by omega
  by_cases h3 : 32 < S.ng
  · have e : Hid (m = 7) := Lib.hid (by rw [E.out, if_pos (by rw [EM.out]; simp [h3])])
    have h3I : (32 : Int) < (S.ng : Int) := by omega
    go_wp2_with fail
    go_ret
    exact ⟨by rw [e.out]; rfl, B1.out⟩
  have h3I : ¬ (32 : Int) < (S.ng : Int) := by omega
  by_cases h4 : 32 < S.np
  · have e : Hid (m = 7) := Lib.hid (by rw [E.out, if_pos (by rw [EM.out]; simp [h4])])
    have h4I : (32 : Int) < (S.np : Int) := by omega
    go_wp2_with fail
    go_ret
    exact ⟨by rw [e.out]; rfl, B1.out⟩
  have h4I : ¬ (32 : Int) < (S.np : Int) := by omega
  have E1 : Hid (m = if (!(allB (onceB (nmR S) S.nr) S.nr) || (!(allB (onceB (nmG S) S.ng) S.ng) || !(allB (onceB (nmP S) S.np) S.np))) = true then 9 else if mayS S = true then 0 else 2) := Lib.hid (by
    rw [E.out, if_neg]
    rw [EM.out]
    simp
    omega)
  clear E EM
  go_wp2_with fail
  clear x7 h1 h1I
  as_aux_lemma =>
  go_loopw [3] (fun x wr => ∃ k : Nat, x = .int .i64 k ∧ k ≤ S.nr ∧ Hid (allB (onceB (nmR S) S.nr) k = true) ∧ Hid (Below w1.heap.size w1 wr)) (fun x _ => S.nr - (intOf x).toNat)
  case atStart => exact ⟨0, rfl, by omega, Lib.hid rfl, Lib.hid (Below.refl _ _)⟩
  case round =>
    obtain ⟨k, rfl, hk, hall, hb⟩ := hrel
    have XW := Lib.hid (XB.out.later hb.out)
    have XH : Hid (_ ∧ True) := Lib.hid ⟨(hb.out.block A A1.out).trans X1.out, trivial⟩
    have x9 := XW.out.2.2 9 _ rfl
    have x10 := XW.out.2.2 10 _ rfl
    have x11 := XW.out.2.2 11 _ rfl
    by_cases hlt : k < S.nr
    · have hrow := D1.out.1
      obtain ⟨a, cap, he, hnn, hcell⟩ := hrow.later hb.out
      obtain ⟨g, off, rfl, hc3⟩ := hcell (by omega)
      obtain ⟨rfl, rfl⟩ : rp = some ⟨g, off, none⟩ ∧ rc = cap := by simpa using he
      have kI : (k : Int) < (S.nr : Int) := by omega
      have k0 : (0 : Int) ≤ (k : Int) := by omega
      have c0 : wr.cell? ⟨g, off + k * 15, none⟩ = some (.int .i64 (nmR S k)) := hc3 k 0 hlt (by omega)
      have HO : Hid (onceB (nmR S) S.nr k = (fstI (nmR S) (nmR S k) S.nr == (k : Int))) := Lib.hid rfl
      have CC := Lib.hid (CR.out (nmR S k) wr.drew hb.out.drew)
      obtain ⟨y, hy⟩ : ∃ y, y = nmR S k := ⟨_, rfl⟩
      rw [← hy] at c0 CC HO
      obtain ⟨r, hr⟩ : ∃ r, r = fstI (nmR S) y S.nr := ⟨_, rfl⟩
      rw [← hr] at CC HO
      clear hc3 hcell hnn he hy hr
      go_wp2_with fail
      refine wp_region_held_drew (S := fun w' => w'.heap[A]? = some (.cells #[s0, s1, s2, s3, s4, s5, s6, .slice hp S.nh hc, mt, .slice (some ⟨g, off, none⟩) S.nr rc, .slice gp S.ng gc, .slice pp S.np pk, it] 31 (0, 0)) ∧ w'.cell? ⟨A, 9, none⟩ = some (.slice (some ⟨g, off, none⟩) S.nr rc) ∧ w'.cell? ⟨g, off + k * 15, none⟩ = some (.int .i64 y)) (by kernel_rfl) ⟨XH.out.1, x9, c0⟩ (fun hSw => ?_)
      refine wpAnyH_take (i := 0) (v := .agg #[s0, s1, s2, s3, s4, s5, s6, .slice hp S.nh hc, mt, .slice (some ⟨g, off, none⟩) S.nr rc, .slice gp S.ng gc, .slice pp S.np pk, it]) rfl (by kernel_rfl) (by kernel_rfl) (by kernel_rfl) (fun _ _ _ h => h) (yields_row (by rfl) 31 (.tmp 1) rfl A rfl 31 _ (0, 0) _ (fun _ h => h.1) HS31.out rfl Try.size31) hSw ?_
      (try simp only [Act.put, List.setIfInBounds_toArray, List.set_cons_zero, List.set_cons_succ, List.getElem_toArray, List.getElem_cons_zero])
      refine wpAnyH_take (i := 1) (v := ?_) rfl (by kernel_rfl) (by kernel_rfl) (by kernel_rfl) (fun _ _ _ h => h) (Or.inl ⟨by rfl, ?_⟩) hSw ?_
      rotate_left
      · (intro wS hSx; (try dsimp only at hSx); go_simp)
        all_goals with_reducible rfl
      (try simp only [Act.put, List.setIfInBounds_toArray, List.set_cons_zero, List.set_cons_succ, List.getElem_toArray, List.getElem_cons_succ, List.getElem_cons_zero])
      refine wpAnyH_take (i := 2) (v := ?_) rfl (by kernel_rfl) (by kernel_rfl) (by kernel_rfl) (fun _ _ _ h => h) (Or.inl ⟨by rfl, ?_⟩) hSw ?_
      rotate_left
      · (intro wS hSx; (try dsimp only at hSx); go_simp)
        all_goals with_reducible rfl
      (try simp only [Act.put, List.setIfInBounds_toArray, List.set_cons_zero, List.set_cons_succ, List.getElem_toArray, List.getElem_cons_succ, List.getElem_cons_zero])
      refine wpAnyH_take (i := 3) (v := ?_) rfl (by kernel_rfl) (by kernel_rfl) (by kernel_rfl) (fun _ _ _ h => h) (Or.inl ⟨by rfl, ?_⟩) hSw ?_
      rotate_left
      · (intro wS hSx; (try dsimp only at hSx); go_simp)
        all_goals with_reducible rfl
      (try simp only [Act.put, List.setIfInBounds_toArray, List.set_cons_zero, List.set_cons_succ, List.getElem_toArray, List.getElem_cons_succ, List.getElem_cons_zero])
      refine wpAnyH_take (i := 4) (v := ?_) rfl (by kernel_rfl) (by kernel_rfl) (by kernel_rfl) (fun _ _ _ h => h) (Or.inl ⟨by rfl, ?_⟩) hSw ?_
      rotate_left
      · (intro wS hSx; (try dsimp only at hSx); go_simp)
        all_goals with_reducible rfl
      (try simp only [Act.put, List.setIfInBounds_toArray, List.set_cons_zero, List.set_cons_succ, List.getElem_toArray, List.getElem_cons_succ, List.getElem_cons_zero])
      refine wpAnyH_take (i := 5) (v := ?_) rfl (by kernel_rfl) (by kernel_rfl) (by kernel_rfl) (fun _ _ _ h => h) (Or.inl ⟨by rfl, ?_⟩) hSw ?_
      rotate_left
      · (intro wS hSx; (try dsimp only at hSx); go_simp)
        all_goals with_reducible rfl
      (try simp only [Act.put, List.setIfInBounds_toArray, List.set_cons_zero, List.set_cons_succ, List.getElem_toArray, List.getElem_cons_succ, List.getElem_cons_zero])
      refine wpAnyH_take (i := 6) (v := ?_) rfl (by kernel_rfl) (by kernel_rfl) (by kernel_rfl) (fun _ _ _ h => h) (Or.inl ⟨by rfl, ?_⟩) hSw ?_
      rotate_left
      · (intro wS hSx; (try dsimp only at hSx); go_simp)
        all_goals with_reducible rfl
      (try simp only [Act.put, List.setIfInBounds_toArray, List.set_cons_zero, List.set_cons_succ, List.getElem_toArray, List.getElem_cons_succ, List.getElem_cons_zero])
      refine wpAnyH_take (i := 8) (v := ?_) rfl (by kernel_rfl) (by kernel_rfl) (by kernel_rfl) (fun _ _ _ h => h) (Or.inl ⟨by rfl, ?_⟩) hSw ?_
      rotate_left
      · (intro wS hSx; (try dsimp only at hSx); go_simp)
        all_goals with_reducible rfl
      (try simp only [Act.put, List.setIfInBounds_toArray, List.set_cons_zero, List.set_cons_succ, List.getElem_toArray, List.getElem_cons_succ, List.getElem_cons_zero])
      refine wpAnyH_ready (rs := [7]) (by kernel_rfl) (by simp) ?_
      refine AllReadyH.cons rfl (fun KK hKK => ?_) AllReadyH.nil
      go_simp
      refine CC.out.mono ?_
      rintro e w2 ⟨rfl, hb2d⟩
      have hb2 : Below wr.heap.size wr w2 := bel_drew hb2d
      have B2 := Lib.hid (bthen hb.out hb2)
      refine hKK.out _ _ ⟨(hb2.block A (Nat.lt_of_lt_of_le A1.out hb.out.size)).trans XH.out.1, cell_later hb2 x9, cell_later hb2 c0⟩ (fun hSw => ?_)
      clear hKK KK hb2 hb2d
      (try simp only [Act.put, List.setIfInBounds_toArray, List.set_cons_zero, List.set_cons_succ, List.getElem_toArray, List.getElem_cons_succ, List.getElem_cons_zero])
      refine wpAnyH_take (i := 9) (v := ?_) rfl (by kernel_rfl) (by kernel_rfl) (by kernel_rfl) (fun _ _ _ h => h) (Or.inl ⟨by rfl, ?_⟩) hSw ?_
      rotate_left
      · (intro wS hSx; (try dsimp only at hSx); go_simp)
        all_goals with_reducible rfl
      (try simp only [Act.put, List.setIfInBounds_toArray, List.set_cons_zero, List.set_cons_succ, List.getElem_toArray, List.getElem_cons_succ, List.getElem_cons_zero])
      refine wpAnyH_done (by kernel_rfl) ?_ _
      clear hSw c0 x9 x10 x11 CC
      cases hne : (r != (k : Int))
      · have ho : Hid (onceB (nmR S) S.nr k = true) := Lib.hid (by rw [HO.out]; simpa using hne)
        go_wp2_with fail
        exact ⟨⟨k + 1, by go_num, by omega, Lib.hid (by rw [allB_succ, hall.out, ho.out]; rfl), B2⟩, by (first | (simp [intOf]; done) | (simp [intOf]; omega) | (simp only [intOf]; omega))⟩
      · have ho : Hid (onceB (nmR S) S.nr k = false) := Lib.hid (by rw [HO.out]; simpa using hne)
        have e : Hid (m = 9) := Lib.hid (by rw [E1.out, allB_false hlt ho.out]; simp)
        go_wp2_with fail
        go_ret
        exact ⟨by rw [e.out]; rfl, bthen B1.out B2.out⟩
    · obtain rfl : k = S.nr := by omega
      have kI : ¬ (S.nr : Int) < (S.nr : Int) := by omega
      have E2 : Hid (m = if (!(allB (onceB (nmG S) S.ng) S.ng) || !(allB (onceB (nmP S) S.np) S.np)) = true then 9 else if mayS S = true then 0 else 2) := Lib.hid (by rw [E1.out, hall.out]; simp)
      go_wp2_with fail
      clear kI hall E1 XW XH x9 x10 x11
      as_aux_lemma =>
      go_loopw [4] (fun x wr => ∃ k : Nat, x = .int .i64 k ∧ k ≤ S.ng ∧ Hid (allB (onceB (nmG S) S.ng) k = true) ∧ Hid (Below w1.heap.size w1 wr)) (fun x _ => S.ng - (intOf x).toNat)
      case atStart => exact ⟨0, rfl, by omega, Lib.hid rfl, hb⟩
      case round =>
        clear hb
        obtain ⟨k, rfl, hk, hall, hb⟩ := hrel
        have XW := Lib.hid (XB.out.later hb.out)
        have XH : Hid (_ ∧ True) := Lib.hid ⟨(hb.out.block A A1.out).trans X1.out, trivial⟩
        have x9 := XW.out.2.2 9 _ rfl
        have x10 := XW.out.2.2 10 _ rfl
        have x11 := XW.out.2.2 11 _ rfl
        by_cases hlt : k < S.ng
        · obtain ⟨_, ⟨sv, hrow, hst⟩, _⟩ := D1.out
          obtain ⟨a, cap, he, hnn, hcell⟩ := hrow.later hb.out
          obtain ⟨g, off, rfl, hc3⟩ := hcell (by omega)
          obtain ⟨rfl, rfl⟩ : gp = some ⟨g, off, none⟩ ∧ gc = cap := by simpa using he
          have kI : (k : Int) < (S.ng : Int) := by omega
          have k0 : (0 : Int) ≤ (k : Int) := by omega
          have c0 : wr.cell? ⟨g, off + k * 3, none⟩ = some (.int .i64 (nmG S k)) := hc3 k 0 hlt (by omega)
          have HO : Hid (onceB (nmG S) S.ng k = (fstI (nmG S) (nmG S k) S.ng == (k : Int))) := Lib.hid rfl
          have CC := Lib.hid (CG.out (nmG S k) wr.drew hb.out.drew)
          obtain ⟨y, hy⟩ : ∃ y, y = nmG S k := ⟨_, rfl⟩
          rw [← hy] at c0 CC HO
          obtain ⟨r, hr⟩ : ∃ r, r = fstI (nmG S) y S.ng := ⟨_, rfl⟩
          rw [← hr] at CC HO
          clear hc3 hcell hnn he hy hr hst
          go_wp2_with fail
          refine wp_region_held_drew (S := fun w' => w'.cell? ⟨A, 10, none⟩ = some (.slice (some ⟨g, off, none⟩) S.ng gc) ∧ w'.cell? ⟨g, off + k * 3, none⟩ = some (.int .i64 y)) (by kernel_rfl) ⟨x10, c0⟩ (fun hSw => ?_)
          refine wpAnyH_take (i := 0) (v := ?_) rfl (by kernel_rfl) (by kernel_rfl) (by kernel_rfl) (fun _ _ _ h => h) (Or.inl ⟨by rfl, ?_⟩) hSw ?_
          rotate_left
          · (intro wS hSx; (try dsimp only at hSx); go_simp)
            all_goals with_reducible rfl
          (try simp only [Act.put, List.setIfInBounds_toArray, List.set_cons_zero, List.set_cons_succ, List.getElem_toArray, List.getElem_cons_zero])
          refine wpAnyH_take (i := 1) (v := ?_) rfl (by kernel_rfl) (by kernel_rfl) (by kernel_rfl) (fun _ _ _ h => h) (Or.inl ⟨by rfl, ?_⟩) hSw ?_
          rotate_left
          · (intro wS hSx; (try dsimp only at hSx); go_simp)
            all_goals with_reducible rfl
          (try simp only [Act.put, List.setIfInBounds_toArray, List.set_cons_zero, List.set_cons_succ, List.getElem_toArray, List.getElem_cons_succ, List.getElem_cons_zero])
          refine wpAnyH_take (i := 2) (v := ?_) rfl (by kernel_rfl) (by kernel_rfl) (by kernel_rfl) (fun _ _ _ h => h) (Or.inl ⟨by rfl, ?_⟩) hSw ?_
          rotate_left
          · (intro wS hSx; (try dsimp only at hSx); go_simp)
            all_goals with_reducible rfl
          (try simp only [Act.put, List.setIfInBounds_toArray, List.set_cons_zero, List.set_cons_succ, List.getElem_toArray, List.getElem_cons_succ, List.getElem_cons_zero])
          refine wpAnyH_take (i := 3) (v := ?_) rfl (by kernel_rfl) (by kernel_rfl) (by kernel_rfl) (fun _ _ _ h => h) (Or.inl ⟨by rfl, ?_⟩) hSw ?_
          rotate_left
          · (intro wS hSx; (try dsimp only at hSx); go_simp)
            all_goals with_reducible rfl
          (try simp only [Act.put, List.setIfInBounds_toArray, List.set_cons_zero, List.set_cons_succ, List.getElem_toArray, List.getElem_cons_succ, List.getElem_cons_zero])
          refine wpAnyH_take (i := 4) (v := ?_) rfl (by kernel_rfl) (by kernel_rfl) (by kernel_rfl) (fun _ _ _ h => h) (Or.inl ⟨by rfl, ?_⟩) hSw ?_
          rotate_left
          · (intro wS hSx; (try dsimp only at hSx); go_simp)
            all_goals with_reducible rfl
          (try simp only [Act.put, List.setIfInBounds_toArray, List.set_cons_zero, List.set_cons_succ, List.getElem_toArray, List.getElem_cons_succ, List.getElem_cons_zero])
          refine wpAnyH_take (i := 5) (v := ?_) rfl (by kernel_rfl) (by kernel_rfl) (by kernel_rfl) (fun _ _ _ h => h) (Or.inl ⟨by rfl, ?_⟩) hSw ?_
          rotate_left
          · (intro wS hSx; (try dsimp only at hSx); go_simp)
            all_goals with_reducible rfl
          (try simp only [Act.put, List.setIfInBounds_toArray, List.set_cons_zero, List.set_cons_succ, List.getElem_toArray, List.getElem_cons_succ, List.getElem_cons_zero])
          refine wpAnyH_take (i := 6) (v := ?_) rfl (by kernel_rfl) (by kernel_rfl) (by kernel_rfl) (fun _ _ _ h => h) (Or.inl ⟨by rfl, ?_⟩) hSw ?_
          rotate_left
          · (intro wS hSx; (try dsimp only at hSx); go_simp)
            all_goals with_reducible rfl
          (try simp only [Act.put, List.setIfInBounds_toArray, List.set_cons_zero, List.set_cons_succ, List.getElem_toArray, List.getElem_cons_succ, List.getElem_cons_zero])
          refine wpAnyH_take (i := 7) (v := ?_) rfl (by kernel_rfl) (by kernel_rfl) (by kernel_rfl) (fun _ _ _ h => h) (Or.inl ⟨by rfl, ?_⟩) hSw ?_
          rotate_left
          · (intro wS hSx; (try dsimp only at hSx); go_simp)
            all_goals with_reducible rfl
          (try simp only [Act.put, List.setIfInBounds_toArray, List.set_cons_zero, List.set_cons_succ, List.getElem_toArray, List.getElem_cons_succ, List.getElem_cons_zero])
          refine wpAnyH_take (i := 9) (v := ?_) rfl (by kernel_rfl) (by kernel_rfl) (by kernel_rfl) (fun _ _ _ h => h) (Or.inl ⟨by rfl, ?_⟩) hSw ?_
          rotate_left
          · (intro wS hSx; (try dsimp only at hSx); go_simp)
            all_goals with_reducible rfl
          (try simp only [Act.put, List.setIfInBounds_toArray, List.set_cons_zero, List.set_cons_succ, List.getElem_toArray, List.getElem_cons_succ, List.getElem_cons_zero])
          refine wpAnyH_ready (rs := [8]) (by kernel_rfl) (by simp) ?_
          refine AllReadyH.cons rfl (fun KK hKK => ?_) AllReadyH.nil
          go_simp
          refine CC.out.mono ?_
          rintro e w2 ⟨rfl, hb2d⟩
          have hb2 : Below wr.heap.size wr w2 := bel_drew hb2d
          have B2 := Lib.hid (bthen hb.out hb2)
          refine hKK.out _ _ ⟨cell_later hb2 x10, cell_later hb2 c0⟩ (fun hSw => ?_)
          clear hKK KK hb2 hb2d
          (try simp only [Act.put, List.setIfInBounds_toArray, List.set_cons_zero, List.set_cons_succ, List.getElem_toArray, List.getElem_cons_succ, List.getElem_cons_zero])
          refine wpAnyH_take (i := 10) (v := ?_) rfl (by kernel_rfl) (by kernel_rfl) (by kernel_rfl) (fun _ _ _ h => h) (Or.inl ⟨by rfl, ?_⟩) hSw ?_
          rotate_left
          · (intro wS hSx; (try dsimp only at hSx); go_simp)
            all_goals with_reducible rfl
          (try simp only [Act.put, List.setIfInBounds_toArray, List.set_cons_zero, List.set_cons_succ, List.getElem_toArray, List.getElem_cons_succ, List.getElem_cons_zero])
          refine wpAnyH_done (by kernel_rfl) ?_ _
          clear hSw c0 x9 x10 x11 CC
          cases hne : (r != (k : Int))
          · have ho : Hid (onceB (nmG S) S.ng k = true) := Lib.hid (by rw [HO.out]; simpa using hne)
            go_wp2_with fail
            exact ⟨⟨k + 1, by go_num, by omega, Lib.hid (by rw [allB_succ, hall.out, ho.out]; rfl), B2⟩, by (first | (simp [intOf]; done) | (simp [intOf]; omega) | (simp only [intOf]; omega))⟩
          · have ho : Hid (onceB (nmG S) S.ng k = false) := Lib.hid (by rw [HO.out]; simpa using hne)
            have e : Hid (m = 9) := Lib.hid (by rw [E2.out, allB_false hlt ho.out]; simp)
            go_wp2_with fail
            go_ret
            exact ⟨by rw [e.out]; rfl, bthen B1.out B2.out⟩
        · obtain rfl : k = S.ng := by omega
          have kI : ¬ (S.ng : Int) < (S.ng : Int) := by omega
          have E3 : Hid (m = if (!(allB (onceB (nmP S) S.np) S.np)) = true then 9 else if mayS S = true then 0 else 2) := Lib.hid (by rw [E2.out, hall.out]; simp)
          go_wp2_with fail
          clear kI hall E2 XW XH x9 x10 x11
          as_aux_lemma =>
          go_loopw [5] (fun x wr => ∃ k : Nat, x = .int .i64 k ∧ k ≤ S.np ∧ Hid (allB (onceB (nmP S) S.np) k = true) ∧ Hid (Below w1.heap.size w1 wr)) (fun x _ => S.np - (intOf x).toNat)
          case atStart => exact ⟨0, rfl, by omega, Lib.hid rfl, hb⟩
          case round =>
            clear hb
            obtain ⟨k, rfl, hk, hall, hb⟩ := hrel
            have XW := Lib.hid (XB.out.later hb.out)
            have XH : Hid (_ ∧ True) := Lib.hid ⟨(hb.out.block A A1.out).trans X1.out, trivial⟩
            have x9 := XW.out.2.2 9 _ rfl
            have x10 := XW.out.2.2 10 _ rfl
            have x11 := XW.out.2.2 11 _ rfl
            by_cases hlt : k < S.np
            · obtain ⟨_, _, sv, hrow, hst⟩ := D1.out
              obtain ⟨a, cap, he, hnn, hcell⟩ := hrow.later hb.out
              obtain ⟨g, off, rfl, hc3⟩ := hcell (by omega)
              obtain ⟨rfl, rfl⟩ : pp = some ⟨g, off, none⟩ ∧ pk = cap := by simpa using he
              have kI : (k : Int) < (S.np : Int) := by omega
              have k0 : (0 : Int) ≤ (k : Int) := by omega
              have c0 : wr.cell? ⟨g, off + k * 4, none⟩ = some (.int .i64 (nmP S k)) := hc3 k 0 hlt (by omega)
              have HO : Hid (onceB (nmP S) S.np k = (fstI (nmP S) (nmP S k) S.np == (k : Int))) := Lib.hid rfl
              have CC := Lib.hid (CP.out (nmP S k) wr.drew hb.out.drew)
              obtain ⟨y, hy⟩ : ∃ y, y = nmP S k := ⟨_, rfl⟩
              rw [← hy] at c0 CC HO
              obtain ⟨r, hr⟩ : ∃ r, r = fstI (nmP S) y S.np := ⟨_, rfl⟩
              rw [← hr] at CC HO
              clear hc3 hcell hnn he hy hr hst
              go_wp2_with fail
              refine wp_region_held_drew (S := fun w' => w'.heap[A]? = some (.cells #[s0, s1, s2, s3, s4, s5, s6, .slice hp S.nh hc, mt, .slice rp S.nr rc, .slice gp S.ng gc, .slice (some ⟨g, off, none⟩) S.np pk, it] 31 (0, 0)) ∧ w'.cell? ⟨A, 11, none⟩ = some (.slice (some ⟨g, off, none⟩) S.np pk) ∧ w'.cell? ⟨g, off + k * 4, none⟩ = some (.int .i64 y)) (by kernel_rfl) ⟨XH.out.1, x11, c0⟩ (fun hSw => ?_)
              refine wpAnyH_take (i := 0) (v := .agg #[s0, s1, s2, s3, s4, s5, s6, .slice hp S.nh hc, mt, .slice rp S.nr rc, .slice gp S.ng gc, .slice (some ⟨g, off, none⟩) S.np pk, it]) rfl (by kernel_rfl) (by kernel_rfl) (by kernel_rfl) (fun _ _ _ h => h) (yields_row (by rfl) 31 (.tmp 1) rfl A rfl 31 _ (0, 0) _ (fun _ h => h.1) HS31.out rfl Try.size31) hSw ?_
              (try simp only [Act.put, List.setIfInBounds_toArray, List.set_cons_zero, List.set_cons_succ, List.getElem_toArray, List.getElem_cons_zero])
              refine wpAnyH_take (i := 1) (v := ?_) rfl (by kernel_rfl) (by kernel_rfl) (by kernel_rfl) (fun _ _ _ h => h) (Or.inl ⟨by rfl, ?_⟩) hSw ?_
              rotate_left
              · (intro wS hSx; (try dsimp only at hSx); go_simp)
                all_goals with_reducible rfl
              (try simp only [Act.put, List.setIfInBounds_toArray, List.set_cons_zero, List.set_cons_succ, List.getElem_toArray, List.getElem_cons_succ, List.getElem_cons_zero])
              refine wpAnyH_take (i := 2) (v := ?_) rfl (by kernel_rfl) (by kernel_rfl) (by kernel_rfl) (fun _ _ _ h => h) (Or.inl ⟨by rfl, ?_⟩) hSw ?_
              rotate_left
              · (intro wS hSx; (try dsimp only at hSx); go_simp)
                all_goals with_reducible rfl
              (try simp only [Act.put, List.setIfInBounds_toArray, List.set_cons_zero, List.set_cons_succ, List.getElem_toArray, List.getElem_cons_succ, List.getElem_cons_zero])
              refine wpAnyH_take (i := 3) (v := ?_) rfl (by kernel_rfl) (by kernel_rfl) (by kernel_rfl) (fun _ _ _ h => h) (Or.inl ⟨by rfl, ?_⟩) hSw ?_
              rotate_left
              · (intro wS hSx; (try dsimp only at hSx); go_simp)
                all_goals with_reducible rfl
              (try simp only [Act.put, List.setIfInBounds_toArray, List.set_cons_zero, List.set_cons_succ, List.getElem_toArray, List.getElem_cons_succ, List.getElem_cons_zero])
              refine wpAnyH_take (i := 4) (v := ?_) rfl (by kernel_rfl) (by kernel_rfl) (by kernel_rfl) (fun _ _ _ h => h) (Or.inl ⟨by rfl, ?_⟩) hSw ?_
              rotate_left
              · (intro wS hSx; (try dsimp only at hSx); go_simp)
                all_goals with_reducible rfl
              (try simp only [Act.put, List.setIfInBounds_toArray, List.set_cons_zero, List.set_cons_succ, List.getElem_toArray, List.getElem_cons_succ, List.getElem_cons_zero])
              refine wpAnyH_take (i := 5) (v := ?_) rfl (by kernel_rfl) (by kernel_rfl) (by kernel_rfl) (fun _ _ _ h => h) (Or.inl ⟨by rfl, ?_⟩) hSw ?_
              rotate_left
              · (intro wS hSx; (try dsimp only at hSx); go_simp)
                all_goals with_reducible rfl
              (try simp only [Act.put, List.setIfInBounds_toArray, List.set_cons_zero, List.set_cons_succ, List.getElem_toArray, List.getElem_cons_succ, List.getElem_cons_zero])
              refine wpAnyH_take (i := 6) (v := ?_) rfl (by kernel_rfl) (by kernel_rfl) (by kernel_rfl) (fun _ _ _ h => h) (Or.inl ⟨by rfl, ?_⟩) hSw ?_
              rotate_left
              · (intro wS hSx; (try dsimp only at hSx); go_simp)
                all_goals with_reducible rfl
              (try simp only [Act.put, List.setIfInBounds_toArray, List.set_cons_zero, List.set_cons_succ, List.getElem_toArray, List.getElem_cons_succ, List.getElem_cons_zero])
              refine wpAnyH_take (i := 8) (v := ?_) rfl (by kernel_rfl) (by kernel_rfl) (by kernel_rfl) (fun _ _ _ h => h) (Or.inl ⟨by rfl, ?_⟩) hSw ?_
              rotate_left
              · (intro wS hSx; (try dsimp only at hSx); go_simp)
                all_goals with_reducible rfl
              (try simp only [Act.put, List.setIfInBounds_toArray, List.set_cons_zero, List.set_cons_succ, List.getElem_toArray, List.getElem_cons_succ, List.getElem_cons_zero])
              refine wpAnyH_ready (rs := [7]) (by kernel_rfl) (by simp) ?_
              refine AllReadyH.cons rfl (fun KK hKK => ?_) AllReadyH.nil
              go_simp
              refine CC.out.mono ?_
              rintro e w2 ⟨rfl, hb2d⟩
              have hb2 : Below wr.heap.size wr w2 := bel_drew hb2d
              have B2 := Lib.hid (bthen hb.out hb2)
              refine hKK.out _ _ ⟨(hb2.block A (Nat.lt_of_lt_of_le A1.out hb.out.size)).trans XH.out.1, cell_later hb2 x11, cell_later hb2 c0⟩ (fun hSw => ?_)
              clear hKK KK hb2 hb2d
              (try simp only [Act.put, List.setIfInBounds_toArray, List.set_cons_zero, List.set_cons_succ, List.getElem_toArray, List.getElem_cons_succ, List.getElem_cons_zero])
              refine wpAnyH_take (i := 9) (v := ?_) rfl (by kernel_rfl) (by kernel_rfl) (by kernel_rfl) (fun _ _ _ h => h) (Or.inl ⟨by rfl, ?_⟩) hSw ?_
              rotate_left
              · (intro wS hSx; (try dsimp only at hSx); go_simp)
                all_goals with_reducible rfl
              (try simp only [Act.put, List.setIfInBounds_toArray, List.set_cons_zero, List.set_cons_succ, List.getElem_toArray, List.getElem_cons_succ, List.getElem_cons_zero])
              refine wpAnyH_done (by kernel_rfl) ?_ _
              clear hSw c0 x9 x10 x11 CC
              cases hne : (r != (k : Int))
              · have ho : Hid (onceB (nmP S) S.np k = true) := Lib.hid (by rw [HO.out]; simpa using hne)
                go_wp2_with fail
                exact ⟨⟨k + 1, by go_num, by omega, Lib.hid (by rw [allB_succ, hall.out, ho.out]; rfl), B2⟩, by (first | (simp [intOf]; done) | (simp [intOf]; omega) | (simp only [intOf]; omega))⟩
              · have ho : Hid (onceB (nmP S) S.np k = false) := Lib.hid (by rw [HO.out]; simpa using hne)
                have e : Hid (m = 9) := Lib.hid (by rw [E3.out, allB_false hlt ho.out]; simp)
                go_wp2_with fail
                go_ret
                exact ⟨by rw [e.out]; rfl, bthen B1.out B2.out⟩
            · obtain rfl : k = S.np := by omega
              have kI : ¬ (S.np : Int) < (S.np : Int) := by omega
              have E4 : Hid (m = if mayS S = true then 0 else 2) := Lib.hid (by rw [E3.out, hall.out]; simp)
              go_wp2_with fail
              clear kI hall E3 XW XH x9 x10 x11
              have E5 : Hid (m = if (allB (mayRm S) S.nr && (allB (fun j => mayG (S.G j)) S.ng && allB (mayPc S) S.np)) = true then 0 else 2) := Lib.hid E4.out
              clear E4
              as_aux_lemma =>
              go_loopw [6] (fun x wr => ∃ k : Nat, x = .int .i64 k ∧ k ≤ S.nr ∧ Hid (allB (mayRm S) k = true) ∧ Hid (Below w1.heap.size w1 wr)) (fun x _ => S.nr - (intOf x).toNat)
              case atStart => exact ⟨0, rfl, by omega, Lib.hid rfl, hb⟩
              case round =>
                clear hb
                obtain ⟨k, rfl, hk, hall, hb⟩ := hrel
                have XW := Lib.hid (XB.out.later hb.out)
                have XH : Hid (_ ∧ True) := Lib.hid ⟨(hb.out.block A A1.out).trans X1.out, trivial⟩
                have x9 := XW.out.2.2 9 _ rfl
                have x10 := XW.out.2.2 10 _ rfl
                have x11 := XW.out.2.2 11 _ rfl
                by_cases hlt : k < S.nr
                · have hrow := D1.out.1
                  obtain ⟨a, cap, he, hnn, hcell⟩ := hrow.later hb.out
                  obtain ⟨g, off, rfl, hc3⟩ := hcell (by omega)
                  obtain ⟨rfl, rfl⟩ : rp = some ⟨g, off, none⟩ ∧ rc = cap := by simpa using he
                  have kI : (k : Int) < (S.nr : Int) := by omega
                  have k0 : (0 : Int) ≤ (k : Int) := by omega
                  have c0 : wr.cell? ⟨g, off + k * 15, none⟩ = some (.int .i64 (S.R k 0)) := hc3 k 0 hlt (by omega)
                  have c1 : wr.cell? ⟨g, off + k * 15 + 1, none⟩ = some (.int .i64 (S.R k 1)) := hc3 k 1 hlt (by omega)
                  have c2 : wr.cell? ⟨g, off + k * 15 + 2, none⟩ = some (.int .i64 (S.R k 2)) := hc3 k 2 hlt (by omega)
                  have c3 : wr.cell? ⟨g, off + k * 15 + 3, none⟩ = some (.int .i64 (S.R k 3)) := hc3 k 3 hlt (by omega)
                  have c4 : wr.cell? ⟨g, off + k * 15 + 4, none⟩ = some (.int .i64 (S.R k 4)) := hc3 k 4 hlt (by omega)
                  have c5 : wr.cell? ⟨g, off + k * 15 + 5, none⟩ = some (.int .i64 (S.R k 5)) := hc3 k 5 hlt (by omega)
                  have c6 : wr.cell? ⟨g, off + k * 15 + 6, none⟩ = some (.int .i64 (S.R k 6)) := hc3 k 6 hlt (by omega)
                  have c7 : wr.cell? ⟨g, off + k * 15 + 7, none⟩ = some (.int .u8 (S.R k 7)) := hc3 k 7 hlt (by omega)
                  have c8 : wr.cell? ⟨g, off + k * 15 + 8, none⟩ = some (.int .u8 (S.R k 8)) := hc3 k 8 hlt (by omega)
                  have c9 : wr.cell? ⟨g, off + k * 15 + 9, none⟩ = some (.int .u8 (S.R k 9)) := hc3 k 9 hlt (by omega)
                  have c10 : wr.cell? ⟨g, off + k * 15 + 10, none⟩ = some (.int .u8 (S.R k 10)) := hc3 k 10 hlt (by omega)
                  have c11 : wr.cell? ⟨g, off + k * 15 + 11, none⟩ = some (.int .u8 (S.R k 11)) := hc3 k 11 hlt (by omega)
                  have c12 : wr.cell? ⟨g, off + k * 15 + 12, none⟩ = some (.int .u8 (S.R k 12)) := hc3 k 12 hlt (by omega)
                  have c13 : wr.cell? ⟨g, off + k * 15 + 13, none⟩ = some (.int .u8 (S.R k 13)) := hc3 k 13 hlt (by omega)
                  have c14 : wr.cell? ⟨g, off + k * 15 + 14, none⟩ = some (.int .u8 (S.R k 14)) := hc3 k 14 hlt (by omega)
                  clear hc3 hcell hnn he
                  go_wp2_with fail
                  refine (rramp29 _ _ _ _ _ _ _ _ _ _ _ _ _ _ _ _).mono ?_
                  rintro e w2 ⟨rfl, hb2⟩
                  have B2 := Lib.hid hb2
                  clear hb2 x9 x10 x11 c0 c1 c2 c3 c4 c5 c6 c7 c8 c9 c10 c11 c12 c13 c14
                  go_wp2_with fail
                  refine (rmay_any _ _ _ _ _ _ _ _ _ _ _ _ _ _ _).mono ?_
                  rintro e w3 ⟨rfl, hb3⟩
                  have B3 := Lib.hid (bthen hb.out (bthen B2.out hb3))
                  clear hb3
                  obtain ⟨q, hq⟩ : ∃ q, q = mayP (S.R k 1) (S.R k 2) (S.R k 3) (S.R k 4) (S.R k 5) (S.R k 6) := ⟨_, rfl⟩
                  rw [← hq]
                  have HQ : Hid (q = mayRm S k) := Lib.hid hq
                  clear hq
                  cases q
                  · have e : Hid (m = 2) := Lib.hid (by rw [E5.out, allB_false hlt HQ.out.symm]; simp)
                    go_wp2_with fail
                    go_ret
                    exact ⟨by rw [e.out]; rfl, bthen B1.out B3.out⟩
                  · go_wp2_with fail
                    exact ⟨⟨k + 1, by go_num, by omega, Lib.hid (by rw [allB_succ, hall.out, ← HQ.out]; rfl), B3⟩, by (first | (simp [intOf]; done) | (simp [intOf]; omega) | (simp only [intOf]; omega))⟩
                · obtain rfl : k = S.nr := by omega
                  have kI : ¬ (S.nr : Int) < (S.nr : Int) := by omega
                  have E6 : Hid (m = if (allB (fun j => mayG (S.G j)) S.ng && allB (mayPc S) S.np) = true then 0 else 2) := Lib.hid (by rw [E5.out, hall.out]; simp)
                  go_wp2_with fail
                  clear kI hall E5 XW XH x9 x10 x11
                  as_aux_lemma =>
                  go_loopw [7] (fun x wr => ∃ k : Nat, x = .int .i64 k ∧ k ≤ S.ng ∧ Hid (allB (fun j => mayG (S.G j)) k = true) ∧ Hid (Below w1.heap.size w1 wr)) (fun x _ => S.ng - (intOf x).toNat)
                  case atStart => exact ⟨0, rfl, by omega, Lib.hid rfl, hb⟩
                  case round =>
                    clear hb
                    obtain ⟨k, rfl, hk, hall, hb⟩ := hrel
                    have XW := Lib.hid (XB.out.later hb.out)
                    have XH : Hid (_ ∧ True) := Lib.hid ⟨(hb.out.block A A1.out).trans X1.out, trivial⟩
                    have x9 := XW.out.2.2 9 _ rfl
                    have x10 := XW.out.2.2 10 _ rfl
                    have x11 := XW.out.2.2 11 _ rfl
                    by_cases hlt : k < S.ng
                    · obtain ⟨_, ⟨sv, hrow, hst⟩, _⟩ := D1.out
                      obtain ⟨a, cap, he, hnn, hcell⟩ := hrow.later hb.out
                      obtain ⟨g, off, rfl, hc3⟩ := hcell (by omega)
                      obtain ⟨rfl, rfl⟩ : gp = some ⟨g, off, none⟩ ∧ gc = cap := by simpa using he
                      have kI : (k : Int) < (S.ng : Int) := by omega
                      have k0 : (0 : Int) ≤ (k : Int) := by omega
                      have c0 : wr.cell? ⟨g, off + k * 3, none⟩ = some (.int .i64 (S.G k).code) := hc3 k 0 hlt (by omega)
                      have c1 : wr.cell? ⟨g, off + k * 3 + 1, none⟩ = some (.int .i64 (S.G k).adv) := hc3 k 1 hlt (by omega)
                      have c2 : wr.cell? ⟨g, off + k * 3 + 2, none⟩ = some (sv k) := hc3 k 2 hlt (by omega)
                      have ST := Lib.hid (((hst k hlt).later hb.out).sts (by have := OK.out.cg k hlt; omega))
                      obtain ⟨sp, sc, hs⟩ := (hst k hlt).slice
                      rw [hs] at c2 ST
                      clear hc3 hcell hnn he hst hs
                      go_wp2_with fail
                      refine (rgmay32 (S.G k) sp sc wr ST.out).mono ?_
                      rintro e w3 ⟨rfl, hb3⟩
                      have B3 := Lib.hid (bthen hb.out hb3)
                      clear hb3 x9 x10 x11 c0 c1 c2
                      obtain ⟨q, hq⟩ : ∃ q, q = mayG (S.G k) := ⟨_, rfl⟩
                      rw [← hq]
                      have HQ := Lib.hid hq
                      clear hq
                      cases q
                      · have e : Hid (m = 2) := Lib.hid (by rw [E6.out, allB_false hlt HQ.out.symm]; simp)
                        go_wp2_with fail
                        go_ret
                        exact ⟨by rw [e.out]; rfl, bthen B1.out B3.out⟩
                      · go_wp2_with fail
                        exact ⟨⟨k + 1, by go_num, by omega, Lib.hid (by rw [allB_succ, hall.out, ← HQ.out]; rfl), B3⟩, by (first | (simp [intOf]; done) | (simp [intOf]; omega) | (simp only [intOf]; omega))⟩
                    · obtain rfl : k = S.ng := by omega
                      have kI : ¬ (S.ng : Int) < (S.ng : Int) := by omega
                      have E7 : Hid (m = if allB (mayPc S) S.np = true then 0 else 2) := Lib.hid (by rw [E6.out, hall.out]; simp)
                      go_wp2_with fail
                      clear kI hall E6 XW XH x9 x10 x11
                      as_aux_lemma =>
                      go_loopw [8] (fun x wr => ∃ k : Nat, x = .int .i64 k ∧ k ≤ S.np ∧ Hid (allB (mayPc S) k = true) ∧ Hid (Below w1.heap.size w1 wr)) (fun x _ => S.np - (intOf x).toNat)
                      case atStart => exact ⟨0, rfl, by omega, Lib.hid rfl, hb⟩
                      case round =>
                        clear hb
                        obtain ⟨k, rfl, hk, hall, hb⟩ := hrel
                        have XW := Lib.hid (XB.out.later hb.out)
                        have XH : Hid (_ ∧ True) := Lib.hid ⟨(hb.out.block A A1.out).trans X1.out, trivial⟩
                        have x9 := XW.out.2.2 9 _ rfl
                        have x10 := XW.out.2.2 10 _ rfl
                        have x11 := XW.out.2.2 11 _ rfl
                        by_cases hlt : k < S.np
                        · obtain ⟨_, _, sv, hrow, hst⟩ := D1.out
                          obtain ⟨a, cap, he, hnn, hcell⟩ := hrow.later hb.out
                          obtain ⟨g, off, rfl, hc3⟩ := hcell (by omega)
                          obtain ⟨rfl, rfl⟩ : pp = some ⟨g, off, none⟩ ∧ pk = cap := by simpa using he
                          have kI : (k : Int) < (S.np : Int) := by omega
                          have k0 : (0 : Int) ≤ (k : Int) := by omega
                          have c1 : wr.cell? ⟨g, off + k * 4 + 1, none⟩ = some (.int .i64 (S.P k).pw) := hc3 k 1 hlt (by omega)
                          have c2 : wr.cell? ⟨g, off + k * 4 + 1 + 1, none⟩ = some (.int .i64 (S.P k).ph) := by rw [show off + k * 4 + 1 + 1 = off + k * 4 + 2 by omega]; exact hc3 k 2 hlt (by omega)
                          have c3 : wr.cell? ⟨g, off + k * 4 + 1 + 2, none⟩ = some (sv k) := by rw [show off + k * 4 + 1 + 2 = off + k * 4 + 3 by omega]; exact hc3 k 3 hlt (by omega)
                          obtain ⟨sp, sc, hs⟩ := (hst k hlt).slice
                          rw [hs] at c3
                          have HP : Hid (mayPc S k = (mayR (S.P k).pw (S.P k).ph (S.P k).n && (decide ((S.P k).pw ≤ 32) && decide ((S.P k).ph ≤ 32)))) := Lib.hid rfl
                          obtain ⟨P1, hP1⟩ : ∃ x, x = (S.P k).pw := ⟨_, rfl⟩
                          obtain ⟨P2, hP2⟩ : ∃ x, x = (S.P k).ph := ⟨_, rfl⟩
                          obtain ⟨P3, hP3⟩ : ∃ x, x = (S.P k).n := ⟨_, rfl⟩
                          rw [← hP1, ← hP2, ← hP3] at HP
                          rw [← hP1] at c1
                          rw [← hP2] at c2
                          rw [← hP3] at c3
                          clear hc3 hcell hnn he hst hs hP1 hP2 hP3
                          go_wp2_with fail
                          refine (rpmay_any P1 P2 sp P3 sc wr).mono ?_
                          rintro e w3 ⟨rfl, hb3⟩
                          have y11 := cell_later hb3 x11
                          have y1 := cell_later hb3 c1
                          have y2 := cell_later hb3 c2
                          have B3 := Lib.hid (bthen hb.out hb3)
                          obtain ⟨q, hq⟩ : ∃ q, q = mayR P1 P2 P3 := ⟨_, rfl⟩
                          rw [← hq] at HP ⊢
                          clear hb3 hq x9 x10 x11 c1 c2 c3
                          cases q
                          · have e : Hid (m = 2) := Lib.hid (by rw [E7.out, allB_false hlt HP.out]; simp)
                            go_wp2_with fail
                            go_ret
                            exact ⟨by rw [e.out]; rfl, bthen B1.out B3.out⟩
                          · by_cases w1' : P1 ≤ 32
                            · by_cases w2' : P2 ≤ 32
                              · have HQ : Hid (mayPc S k = true) := Lib.hid (by rw [HP.out]; simp [w1', w2'])
                                go_wp2_with fail
                                exact ⟨⟨k + 1, by go_num, by omega, Lib.hid (by rw [allB_succ, hall.out, HQ.out]; rfl), B3⟩, by (first | (simp [intOf]; done) | (simp [intOf]; omega) | (simp only [intOf]; omega))⟩
                              · have e : Hid (m = 2) := Lib.hid (by rw [E7.out, allB_false hlt (by rw [HP.out]; simp [w2'])]; simp)
                                go_wp2_with fail
                                go_ret
                                exact ⟨by rw [e.out]; rfl, bthen B1.out B3.out⟩
                            · have e : Hid (m = 2) := Lib.hid (by rw [E7.out, allB_false hlt (by rw [HP.out]; simp [w1'])]; simp)
                              go_wp2_with fail
                              go_ret
                              exact ⟨by rw [e.out]; rfl, bthen B1.out B3.out⟩
                        · obtain rfl : k = S.np := by omega
                          have kI : ¬ (S.np : Int) < (S.np : Int) := by omega
                          have e : Hid (m = 0) := Lib.hid (by rw [E7.out, hall.out]; simp)
                          go_wp2_with fail
                          go_ret
                          exact ⟨by rw [e.out]; rfl, bthen B1.out hb.out⟩
end Go.Proofs.Ytkhdielfnphheaa
