/- Contract of path.Count. -/
import Derived.Test.YthglgempbdaikaaPc0
namespace Go.Proofs.Ythglgempbdaikaa
open Go.RowKit

theorem bx_b (w : World) (cs : List Value) (t : TypeId) (o : Obj) : BxAt ((w.alloc o).alloc (.cells cs.toArray t)) (w.heap.size + 1) cs := by
  have := BxAt.new (w.alloc o) cs t
  simpa using this
def CountPost (F : Nat → Nat → Int) (n : Nat) (w : World) (e : Ending) (w' : World) : Prop :=
  Below w.heap.size w w' ∧ ((checkE F n ≠ 0 ∧ e = .returned (.tuple #[.int .i64 0, .int .i64 (checkE F n)])) ∨ (checkE F n = 0 ∧ e = .returned (.tuple #[.int .i64 (costT F n), .int .i64 0])))
set_option maxRecDepth 100000 in
set_option maxHeartbeats 6400000 in
theorem count_any (sv : Value) (n : Nat) (F : Nat → Nat → Int) (w : World) (h : Sts w sv n F) : Calls Try.prog 13 #[sv] w (CountPost F n w) := by
  have CK := Lib.hid (check_any sv n F w h)
  obtain ⟨a, cap, rfl, hn, hc⟩ := h
  have C := Lib.hid hc
  clear hc
  obtain ⟨ce, hce⟩ : ∃ ce, ce = checkE F n := ⟨_, rfl⟩
  rw [← hce] at CK
  have CE := Lib.hid hce
  have CB : Hid (ce = 0 → n ≤ 200 ∧ chk F n = 0) := Lib.hid (fun h0 => by
    rw [hce] at h0
    unfold checkE at h0
    split at h0
    · cases h0
    · exact ⟨by omega, h0⟩)
  clear hce
  go_enter Try.func13, Try.ntmps13
  go_wp2_with fail
  refine CK.out.mono ?_
  rintro e w1 ⟨rfl, hb1⟩
  have B1 := Lib.hid hb1
  clear hb1
  by_cases h0 : ce = 0
  · obtain ⟨hn2, hchk⟩ := CB.out h0
    have CH := Lib.hid hchk
    have CE0 := Lib.hid h0
    subst h0
    clear hchk
    go_wp2_with fail
    obtain ⟨w2, hw2⟩ : ∃ w2, w2 = w1.alloc (.cells #[.int .i64 0, .int .i64 0] 42) := ⟨_, rfl⟩
    rw [← hw2]
    obtain ⟨G, hG⟩ : ∃ G, G = w1.heap.size := ⟨_, rfl⟩
    rw [← hG]
    have G2 : Hid (BxAt w2 G [.int .i64 0, .int .i64 0]) := Lib.hid (by rw [hw2, hG]; exact BxAt.new w1 _ _)
    have B2 : Hid (Below w.heap.size w w2) := Lib.hid (by rw [hw2]; exact bthen B1.out (below_alloc _ _))
    have ZG : Hid (w.heap.size ≤ G) := Lib.hid (by rw [hG]; exact B1.out.size)
    clear hw2 hG
    go_loopw [5, 17] (fun c i wr => ∃ k : Nat, k ≤ n ∧ i = .int .i64 k ∧ c = .int .i64 (costT F k) ∧ BxAt wr G [.int .i64 (atT F k).1, .int .i64 (atT F k).2] ∧ Below w.heap.size w wr) (fun _ i _ => n - (intOf i).toNat)
    case atStart => exact ⟨0, by omega, rfl, rfl, G2.out, B2.out⟩
    case round =>
      obtain ⟨k, hk, rfl, rfl, hg, hb⟩ := hrel
      have GG := Lib.hid hg
      have B := Lib.hid hb
      clear hg hb
      have CL := costT_le F k
      by_cases hlt : k < n
      · obtain ⟨g, off, rfl, hp⟩ := C.out (by omega)
        have UO := uses_of (F k 0)
        have RF := (right_fits (chk_at CH.out hlt)).1
        have c : ∀ t, t < 7 → wr.cell? ⟨g, off + k * 7 + t, none⟩ = some (.int .i64 (F k t)) := fun t ht => cell_later B.out (hp k hlt t ht)
        have c0 := c 0 (by omega)
        have c1 := c 1 (by omega)
        have c2 := c 2 (by omega)
        have c3 := c 3 (by omega)
        have c4 := c 4 (by omega)
        have c5 := c 5 (by omega)
        have c6 := c 6 (by omega)
        rw [Nat.add_zero] at c0
        obtain ⟨ax, hax⟩ : ∃ x, x = (atT F k).1 := ⟨_, rfl⟩
        obtain ⟨ay, hay⟩ : ∃ x, x = (atT F k).2 := ⟨_, rfl⟩
        rw [← hax, ← hay] at GG
        obtain ⟨f0, hf0⟩ : ∃ x, x = F k 0 := ⟨_, rfl⟩
        rw [← hf0] at c0
        obtain ⟨f1, hf1⟩ : ∃ x, x = F k 1 := ⟨_, rfl⟩
        rw [← hf1] at c1
        obtain ⟨f2, hf2⟩ : ∃ x, x = F k 2 := ⟨_, rfl⟩
        rw [← hf2] at c2
        obtain ⟨f3, hf3⟩ : ∃ x, x = F k 3 := ⟨_, rfl⟩
        rw [← hf3] at c3
        obtain ⟨f4, hf4⟩ : ∃ x, x = F k 4 := ⟨_, rfl⟩
        rw [← hf4] at c4
        obtain ⟨f5, hf5⟩ : ∃ x, x = F k 5 := ⟨_, rfl⟩
        rw [← hf5] at c5
        obtain ⟨f6, hf6⟩ : ∃ x, x = F k 6 := ⟨_, rfl⟩
        rw [← hf6] at c6
        rw [← hf0] at UO RF
        clear hp c
        have hk0 : (0 : Int) ≤ (k : Int) := by omega
        have hk3 : (k : Int) < (n : Int) := by omega
        have g0 := GG.out.2.2 0 _ rfl
        have g1 := GG.out.2.2 1 _ rfl
        have gf := GG.out.2.1
        have zG := GG.out.1
        have gne := Nat.ne_of_lt zG
        have gne2 := Nat.ne_of_gt zG
        have CLT : Hid (costT F k ≤ 6400) := Lib.hid (by omega)
        rcases UO with ⟨ho, _⟩ | ⟨ho, _⟩ | ⟨ho, _⟩ | ⟨ho, _⟩ | ⟨ho, _⟩ | ho
        · obtain rfl : f0 = 1 := ho
          have CT : Hid (costT F (k + 1) = costT F k + 0) := Lib.hid (by show costT F k + costK (F k) (atT F k) = _; unfold costK; rw [← hf0]; rfl)
          have AT : Hid (atT F (k + 1) = (f1, f2)) := Lib.hid (by show atK (F k) (atT F k) = _; unfold atK; rw [← hf0, ← hf1, ← hf2]; rfl)
          obtain ⟨cc, hcc⟩ : ∃ cc, cc = costT F k := ⟨_, rfl⟩
          rw [← hcc] at CT CLT ⊢
          have cc1 : cc ≤ 6400 := CLT.out
          clear hcc CL
          clear hf0 hf1 hf2 hf3 hf4 hf5 hf6 hax hay RF
          go_wp2_with fail
          obtain ⟨A, hA⟩ : ∃ A, A = wr.heap.size := ⟨_, rfl⟩
          rw [← hA]
          refine (uses_any 1 _).mono ?_
          rintro eu wu ⟨rfl, hwu⟩
          rw [show usesI 1 = 1 from by decide]
          have BU : Hid (Below w.heap.size w wu) := Lib.hid (by rw [← hwu]; exact B.out.trans ((below_alloc _ _).mono B.out.size))
          have GU : Hid (BxAt wu G [.int .i64 ax, .int .i64 ay]) := Lib.hid (by rw [← hwu]; exact GG.out.later (below_alloc _ _))
          have XU : Hid (BxAt wu A [.int .i64 1, .int .i64 f1, .int .i64 f2, .int .i64 f3, .int .i64 f4, .int .i64 f5, .int .i64 f6]) := Lib.hid (by rw [← hwu]; exact (by rw [hA]; exact BxAt.new wr _ _))
          clear hwu hA g0 g1 gf gne gne2
          have g0 := GU.out.2.2 0 _ rfl
          have g1 := GU.out.2.2 1 _ rfl
          have gf := GU.out.2.1
          have ax1 := XU.out.2.2 1 _ rfl
          have ax2 := XU.out.2.2 2 _ rfl
          go_wp2_with fail
          have e1 : Hid (BxAt ((wu.setCell ⟨G, 0, none⟩ (.int .i64 f1)).setCell ⟨G, 1, none⟩ (.int .i64 f2)) G [.int .i64 f1, .int .i64 f2]) := Lib.hid ((GU.out.put 0 (.int .i64 f1) (by simp)).put 1 (.int .i64 f2) (by simp))
          have e2 : Hid (Below w.heap.size w ((wu.setCell ⟨G, 0, none⟩ (.int .i64 f1)).setCell ⟨G, 1, none⟩ (.int .i64 f2))) := Lib.hid ((BU.out.setCell (p := ⟨G, 0, none⟩) ZG.out _).setCell (p := ⟨G, 1, none⟩) ZG.out _)
          refine ⟨⟨k + 1, by omega, by go_num, by rw [CT.out]; go_num, by rw [AT.out]; exact e1.out, e2.out⟩, by (first | (simp [intOf]; done) | (simp [intOf]; omega) | (simp only [intOf]; omega))⟩
        · obtain rfl : f0 = 2 := ho
          have CT : Hid (costT F (k + 1) = costT F k + 1) := Lib.hid (by show costT F k + costK (F k) (atT F k) = _; unfold costK; rw [← hf0]; rfl)
          have AT : Hid (atT F (k + 1) = (f1, f2)) := Lib.hid (by show atK (F k) (atT F k) = _; unfold atK; rw [← hf0, ← hf1, ← hf2]; rfl)
          obtain ⟨cc, hcc⟩ : ∃ cc, cc = costT F k := ⟨_, rfl⟩
          rw [← hcc] at CT CLT ⊢
          have cc1 : cc ≤ 6400 := CLT.out
          clear hcc CL
          clear hf0 hf1 hf2 hf3 hf4 hf5 hf6 hax hay RF
          go_wp2_with fail
          obtain ⟨A, hA⟩ : ∃ A, A = wr.heap.size := ⟨_, rfl⟩
          rw [← hA]
          refine (uses_any 2 _).mono ?_
          rintro eu wu ⟨rfl, hwu⟩
          rw [show usesI 2 = 1 from by decide]
          have BU : Hid (Below w.heap.size w wu) := Lib.hid (by rw [← hwu]; exact B.out.trans ((below_alloc _ _).mono B.out.size))
          have GU : Hid (BxAt wu G [.int .i64 ax, .int .i64 ay]) := Lib.hid (by rw [← hwu]; exact GG.out.later (below_alloc _ _))
          have XU : Hid (BxAt wu A [.int .i64 2, .int .i64 f1, .int .i64 f2, .int .i64 f3, .int .i64 f4, .int .i64 f5, .int .i64 f6]) := Lib.hid (by rw [← hwu]; exact (by rw [hA]; exact BxAt.new wr _ _))
          clear hwu hA g0 g1 gf gne gne2
          have g0 := GU.out.2.2 0 _ rfl
          have g1 := GU.out.2.2 1 _ rfl
          have gf := GU.out.2.1
          have ax1 := XU.out.2.2 1 _ rfl
          have ax2 := XU.out.2.2 2 _ rfl
          go_wp2_with fail
          have e1 : Hid (BxAt ((wu.setCell ⟨G, 0, none⟩ (.int .i64 f1)).setCell ⟨G, 1, none⟩ (.int .i64 f2)) G [.int .i64 f1, .int .i64 f2]) := Lib.hid ((GU.out.put 0 (.int .i64 f1) (by simp)).put 1 (.int .i64 f2) (by simp))
          have e2 : Hid (Below w.heap.size w ((wu.setCell ⟨G, 0, none⟩ (.int .i64 f1)).setCell ⟨G, 1, none⟩ (.int .i64 f2))) := Lib.hid ((BU.out.setCell (p := ⟨G, 0, none⟩) ZG.out _).setCell (p := ⟨G, 1, none⟩) ZG.out _)
          refine ⟨⟨k + 1, by omega, by go_num, by rw [CT.out]; go_num, by rw [AT.out]; exact e1.out, e2.out⟩, by (first | (simp [intOf]; done) | (simp [intOf]; omega) | (simp only [intOf]; omega))⟩
        · obtain rfl : f0 = 3 := ho
          have CT : Hid (costT F (k + 1) = costT F k + crvN 3 (atT F k) (F k)) := Lib.hid (by show costT F k + costK (F k) (atT F k) = _; unfold costK; rw [← hf0]; rfl)
          have AT : Hid (atT F (k + 1) = (f3, f4)) := Lib.hid (by show atK (F k) (atT F k) = _; unfold atK; rw [← hf0, ← hf3, ← hf4]; rfl)
          have PC : Hid (∀ W A cap, BxAt W A [.int .i64 ax, .int .i64 ay, .int .i64 f1, .int .i64 f2, .int .i64 f3, .int .i64 f4] → Calls Try.prog 27 #[.slice (some ⟨A, 0, none⟩) 3 cap] W (RetPost (.int .i64 (crvN 3 (atT F k) (F k))) W)) := Lib.hid (fun W A cap h => by
            refine pieces_any A 0 3 cap (quadX (crv (atT F k) (F k))) (quadY (crv (atT F k) (F k))) W (by omega) (fun j hj => ?_)
            have h4 : j = 0 ∨ j = 1 ∨ j = 2 := by omega
            rw [hax, hay, hf1, hf2, hf3, hf4] at h
            rcases h4 with rfl | rfl | rfl
            · exact ⟨h.2.2 0 _ rfl, h.2.2 1 _ rfl⟩
            · exact ⟨h.2.2 2 _ rfl, h.2.2 3 _ rfl⟩
            · exact ⟨h.2.2 4 _ rfl, h.2.2 5 _ rfl⟩)
          have NB := Lib.hid (crvN_le 3 (atT F k) (F k))
          obtain ⟨N, hN⟩ : ∃ N, N = crvN 3 (atT F k) (F k) := ⟨_, rfl⟩
          rw [← hN] at CT PC NB
          have hN32 : N ≤ 32 := NB.out
          clear hN
          obtain ⟨cc, hcc⟩ : ∃ cc, cc = costT F k := ⟨_, rfl⟩
          rw [← hcc] at CT CLT ⊢
          have cc1 : cc ≤ 6400 := CLT.out
          clear hcc CL
          clear hf0 hf1 hf2 hf3 hf4 hf5 hf6 hax hay RF
          go_wp2_with fail
          obtain ⟨A, hA⟩ : ∃ A, A = wr.heap.size := ⟨_, rfl⟩
          refine (PC.out _ _ _ (bx_b wr _ _ _)).mono ?_
          rintro ep w3 ⟨rfl, hb3⟩
          have b3 : Below wr.heap.size wr w3 := bthen (bel2 _ _ _) hb3
          have G3 := Lib.hid (GG.out.later b3)
          have B3 := Lib.hid (B.out.trans (b3.mono B.out.size))
          have X3 : Hid (BxAt w3 A [.int .i64 3, .int .i64 f1, .int .i64 f2, .int .i64 f3, .int .i64 f4, .int .i64 f5, .int .i64 f6]) := Lib.hid (by rw [hA]; exact ((BxAt.new wr [.int .i64 3, .int .i64 f1, .int .i64 f2, .int .i64 f3, .int .i64 f4, .int .i64 f5, .int .i64 f6] 59).later (below_alloc _ _)).later hb3)
          clear b3 hb3 g0 g1 gf gne gne2 c0 c1 c2 c3 c4 c5 c6
          have a0 := X3.out.2.2 0 _ rfl
          rw [← hA]
          clear hA
          go_wp2_with fail
          refine (uses_any 3 _).mono ?_
          rintro eu wu ⟨rfl, hwu⟩
          rw [show usesI 3 = 2 from by decide]
          have BU : Hid (Below w.heap.size w wu) := Lib.hid (by rw [← hwu]; exact B3.out)
          have GU : Hid (BxAt wu G [.int .i64 ax, .int .i64 ay]) := Lib.hid (by rw [← hwu]; exact G3.out)
          have XU : Hid (BxAt wu A [.int .i64 3, .int .i64 f1, .int .i64 f2, .int .i64 f3, .int .i64 f4, .int .i64 f5, .int .i64 f6]) := Lib.hid (by rw [← hwu]; exact X3.out)
          clear hwu a0
          have g0 := GU.out.2.2 0 _ rfl
          have g1 := GU.out.2.2 1 _ rfl
          have gf := GU.out.2.1
          have ax1 := XU.out.2.2 3 _ rfl
          have ax2 := XU.out.2.2 4 _ rfl
          go_wp2_with fail
          have e1 : Hid (BxAt ((wu.setCell ⟨G, 0, none⟩ (.int .i64 f3)).setCell ⟨G, 1, none⟩ (.int .i64 f4)) G [.int .i64 f3, .int .i64 f4]) := Lib.hid ((GU.out.put 0 (.int .i64 f3) (by simp)).put 1 (.int .i64 f4) (by simp))
          have e2 : Hid (Below w.heap.size w ((wu.setCell ⟨G, 0, none⟩ (.int .i64 f3)).setCell ⟨G, 1, none⟩ (.int .i64 f4))) := Lib.hid ((BU.out.setCell (p := ⟨G, 0, none⟩) ZG.out _).setCell (p := ⟨G, 1, none⟩) ZG.out _)
          refine ⟨⟨k + 1, by omega, by go_num, by rw [CT.out]; go_num, by rw [AT.out]; exact e1.out, e2.out⟩, by (first | (simp [intOf]; done) | (simp [intOf]; omega) | (simp only [intOf]; omega))⟩
        · obtain rfl : f0 = 4 := ho
          have CT : Hid (costT F (k + 1) = costT F k + crvN 4 (atT F k) (F k)) := Lib.hid (by show costT F k + costK (F k) (atT F k) = _; unfold costK; rw [← hf0]; rfl)
          have AT : Hid (atT F (k + 1) = (f5, f6)) := Lib.hid (by show atK (F k) (atT F k) = _; unfold atK; rw [← hf0, ← hf5, ← hf6]; rfl)
          have PC : Hid (∀ W A cap, BxAt W A [.int .i64 ax, .int .i64 ay, .int .i64 f1, .int .i64 f2, .int .i64 f3, .int .i64 f4, .int .i64 f5, .int .i64 f6] → Calls Try.prog 27 #[.slice (some ⟨A, 0, none⟩) 4 cap] W (RetPost (.int .i64 (crvN 4 (atT F k) (F k))) W)) := Lib.hid (fun W A cap h => by
            refine pieces_any A 0 4 cap (quadX (crv (atT F k) (F k))) (quadY (crv (atT F k) (F k))) W (by omega) (fun j hj => ?_)
            have h4 : j = 0 ∨ j = 1 ∨ j = 2 ∨ j = 3 := by omega
            rw [hax, hay, hf1, hf2, hf3, hf4, hf5, hf6] at h
            rcases h4 with rfl | rfl | rfl | rfl
            · exact ⟨h.2.2 0 _ rfl, h.2.2 1 _ rfl⟩
            · exact ⟨h.2.2 2 _ rfl, h.2.2 3 _ rfl⟩
            · exact ⟨h.2.2 4 _ rfl, h.2.2 5 _ rfl⟩
            · exact ⟨h.2.2 6 _ rfl, h.2.2 7 _ rfl⟩)
          have NB := Lib.hid (crvN_le 4 (atT F k) (F k))
          obtain ⟨N, hN⟩ : ∃ N, N = crvN 4 (atT F k) (F k) := ⟨_, rfl⟩
          rw [← hN] at CT PC NB
          have hN32 : N ≤ 32 := NB.out
          clear hN
          obtain ⟨cc, hcc⟩ : ∃ cc, cc = costT F k := ⟨_, rfl⟩
          rw [← hcc] at CT CLT ⊢
          have cc1 : cc ≤ 6400 := CLT.out
          clear hcc CL
          clear hf0 hf1 hf2 hf3 hf4 hf5 hf6 hax hay RF
          go_wp2_with fail
          obtain ⟨A, hA⟩ : ∃ A, A = wr.heap.size := ⟨_, rfl⟩
          refine (PC.out _ _ _ (bx_b wr _ _ _)).mono ?_
          rintro ep w3 ⟨rfl, hb3⟩
          have b3 : Below wr.heap.size wr w3 := bthen (bel2 _ _ _) hb3
          have G3 := Lib.hid (GG.out.later b3)
          have B3 := Lib.hid (B.out.trans (b3.mono B.out.size))
          have X3 : Hid (BxAt w3 A [.int .i64 4, .int .i64 f1, .int .i64 f2, .int .i64 f3, .int .i64 f4, .int .i64 f5, .int .i64 f6]) := Lib.hid (by rw [hA]; exact ((BxAt.new wr [.int .i64 4, .int .i64 f1, .int .i64 f2, .int .i64 f3, .int .i64 f4, .int .i64 f5, .int .i64 f6] 59).later (below_alloc _ _)).later hb3)
          clear b3 hb3 g0 g1 gf gne gne2 c0 c1 c2 c3 c4 c5 c6
          have a0 := X3.out.2.2 0 _ rfl
          rw [← hA]
          clear hA
          go_wp2_with fail
          refine (uses_any 4 _).mono ?_
          rintro eu wu ⟨rfl, hwu⟩
          rw [show usesI 4 = 3 from by decide]
          have BU : Hid (Below w.heap.size w wu) := Lib.hid (by rw [← hwu]; exact B3.out)
          have GU : Hid (BxAt wu G [.int .i64 ax, .int .i64 ay]) := Lib.hid (by rw [← hwu]; exact G3.out)
          have XU : Hid (BxAt wu A [.int .i64 4, .int .i64 f1, .int .i64 f2, .int .i64 f3, .int .i64 f4, .int .i64 f5, .int .i64 f6]) := Lib.hid (by rw [← hwu]; exact X3.out)
          clear hwu a0
          have g0 := GU.out.2.2 0 _ rfl
          have g1 := GU.out.2.2 1 _ rfl
          have gf := GU.out.2.1
          have ax1 := XU.out.2.2 5 _ rfl
          have ax2 := XU.out.2.2 6 _ rfl
          go_wp2_with fail
          have e1 : Hid (BxAt ((wu.setCell ⟨G, 0, none⟩ (.int .i64 f5)).setCell ⟨G, 1, none⟩ (.int .i64 f6)) G [.int .i64 f5, .int .i64 f6]) := Lib.hid ((GU.out.put 0 (.int .i64 f5) (by simp)).put 1 (.int .i64 f6) (by simp))
          have e2 : Hid (Below w.heap.size w ((wu.setCell ⟨G, 0, none⟩ (.int .i64 f5)).setCell ⟨G, 1, none⟩ (.int .i64 f6))) := Lib.hid ((BU.out.setCell (p := ⟨G, 0, none⟩) ZG.out _).setCell (p := ⟨G, 1, none⟩) ZG.out _)
          refine ⟨⟨k + 1, by omega, by go_num, by rw [CT.out]; go_num, by rw [AT.out]; exact e1.out, e2.out⟩, by (first | (simp [intOf]; done) | (simp [intOf]; omega) | (simp only [intOf]; omega))⟩
        · obtain rfl : f0 = 5 := ho
          have CT : Hid (costT F (k + 1) = costT F k + 1) := Lib.hid (by show costT F k + costK (F k) (atT F k) = _; unfold costK; rw [← hf0]; rfl)
          have AT : Hid (atT F (k + 1) = (ax, ay)) := Lib.hid (by show atK (F k) (atT F k) = _; unfold atK; rw [← hf0, hax, hay]; rfl)
          obtain ⟨cc, hcc⟩ : ∃ cc, cc = costT F k := ⟨_, rfl⟩
          rw [← hcc] at CT CLT ⊢
          have cc1 : cc ≤ 6400 := CLT.out
          clear hcc CL
          clear hf0 hf1 hf2 hf3 hf4 hf5 hf6 hax hay RF
          go_wp2_with fail
          obtain ⟨A, hA⟩ : ∃ A, A = wr.heap.size := ⟨_, rfl⟩
          rw [← hA]
          refine (uses_any 5 _).mono ?_
          rintro eu wu ⟨rfl, hwu⟩
          rw [show usesI 5 = 0 from by decide]
          have BU : Hid (Below w.heap.size w wu) := Lib.hid (by rw [← hwu]; exact B.out.trans ((below_alloc _ _).mono B.out.size))
          have GU : Hid (BxAt wu G [.int .i64 ax, .int .i64 ay]) := Lib.hid (by rw [← hwu]; exact GG.out.later (below_alloc _ _))
          have XU : Hid (BxAt wu A [.int .i64 5, .int .i64 f1, .int .i64 f2, .int .i64 f3, .int .i64 f4, .int .i64 f5, .int .i64 f6]) := Lib.hid (by rw [← hwu]; exact (by rw [hA]; exact BxAt.new wr _ _))
          clear hwu hA g0 g1 gf gne gne2
          have g0 := GU.out.2.2 0 _ rfl
          have g1 := GU.out.2.2 1 _ rfl
          have gf := GU.out.2.1
          go_wp2_with fail
          refine ⟨⟨k + 1, by omega, by go_num, by rw [CT.out]; go_num, by rw [AT.out]; exact GU.out, BU.out⟩, by (first | (simp [intOf]; done) | (simp [intOf]; omega) | (simp only [intOf]; omega))⟩
        · omega
      · obtain rfl : k = n := by omega
        go_wp2_with fail
        refine bodyPost_ret (v := .tuple #[.int .i64 (costT F k), .int .i64 0]) ?_ rfl ⟨B.out, Or.inr ⟨CE.out.symm, rfl⟩⟩
        simp [results, Try.results13, go_sem]
  · go_wp2_with fail
    refine bodyPost_ret (v := .tuple #[.int .i64 0, .int .i64 ce]) ?_ rfl ⟨B1.out, Or.inl ⟨by rw [← CE.out]; exact h0, by rw [← CE.out]⟩⟩
    simp [results, Try.results13, go_sem]
end Go.Proofs.Ythglgempbdaikaa
