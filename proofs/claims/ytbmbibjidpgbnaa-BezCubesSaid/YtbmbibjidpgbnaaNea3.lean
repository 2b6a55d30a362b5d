/- Contracts of frisketref10: May, Apply. -/
import Derived.Test.YtbmbibjidpgbnaaNea2
namespace Go.Proofs.Ytbmbibjidpgbnaa
open Go.RowKit

set_option maxRecDepth 100000 in
set_option maxHeartbeats 3200000 in
theorem rmay_any (a b c d e f : Int) (w : World) :
    Calls Try.prog 15 #[.agg #[.int .i64 a, .int .i64 b, .int .i64 c, .int .i64 d, .int .i64 e, .int .i64 f]] w (RetPost (.bool (may a b c d e f)) w) := by
  have hv : may a b c d e f = (within a 32768 && (within b 32768 && (within c 32768 && (within d 32768 && fits e f)))) := by
    unfold may; simp only [Bool.and_assoc]
  have HV := Lib.hid hv
  clear hv
  cases h1 : within a 32768
  · go_enter Try.func15, Try.ntmps15
    go_wp2_with (first | (go_at_call 50; refine (factor_any _ _).mono ?_; rintro e w' ⟨rfl, rfl⟩))
    go_ret
    exact ⟨by rw [HV.out, h1]; rfl, below_alloc _ _⟩
  cases h2 : within b 32768
  · go_enter Try.func15, Try.ntmps15
    go_wp2_with (first | (go_at_call 50; refine (factor_any _ _).mono ?_; rintro e w' ⟨rfl, rfl⟩))
    go_ret
    exact ⟨by rw [HV.out, h1, h2]; rfl, below_alloc _ _⟩
  cases h3 : within c 32768
  · go_enter Try.func15, Try.ntmps15
    go_wp2_with (first | (go_at_call 50; refine (factor_any _ _).mono ?_; rintro e w' ⟨rfl, rfl⟩))
    go_ret
    exact ⟨by rw [HV.out, h1, h2, h3]; rfl, below_alloc _ _⟩
  cases h4 : within d 32768
  · go_enter Try.func15, Try.ntmps15
    go_wp2_with (first | (go_at_call 50; refine (factor_any _ _).mono ?_; rintro e w' ⟨rfl, rfl⟩))
    go_ret
    exact ⟨by rw [HV.out, h1, h2, h3, h4]; rfl, below_alloc _ _⟩
  · go_enter Try.func15, Try.ntmps15
    go_wp2_with (first | (go_at_call 50; refine (factor_any _ _).mono ?_; rintro e w' ⟨rfl, rfl⟩) | (go_at_call 17; refine (rfits_any _ _ _).mono ?_; rintro e w' ⟨rfl, rfl⟩))
    go_ret
    exact ⟨by rw [HV.out, h1, h2, h3, h4]; rfl, bel2 _ _ _⟩
/-- the boxes of a map, a point, and the result -/
def ASt (W : World) (A : Nat) (a b c d e f x y : Int) : Prop :=
  BxAt W A [.int .i64 a, .int .i64 b, .int .i64 c, .int .i64 d, .int .i64 e, .int .i64 f] ∧ BxAt W (A + 1) [.int .i64 x, .int .i64 y] ∧ BxAt W (A + 1 + 1) [.int .i64 0, .int .i64 0]
theorem ASt.later {W W1 : World} {A : Nat} {a b c d e f x y : Int} (h : ASt W A a b c d e f x y) (hb : Below W.heap.size W W1) : ASt W1 A a b c d e f x y := ⟨h.1.later hb, h.2.1.later hb, h.2.2.later hb⟩
abbrev ACells (W : World) (A : Nat) (a b c d e f x y : Int) : Prop := W.cell? ⟨A, 0, none⟩ = some (.int .i64 a) ∧ W.cell? ⟨A, 1, none⟩ = some (.int .i64 b) ∧ W.cell? ⟨A, 2, none⟩ = some (.int .i64 c) ∧ W.cell? ⟨A, 3, none⟩ = some (.int .i64 d) ∧ W.cell? ⟨A, 4, none⟩ = some (.int .i64 e) ∧ W.cell? ⟨A, 5, none⟩ = some (.int .i64 f) ∧ W.cell? ⟨A + 1, 0, none⟩ = some (.int .i64 x) ∧ W.cell? ⟨A + 1, 1, none⟩ = some (.int .i64 y)
theorem ASt.cells {W : World} {A : Nat} {a b c d e f x y : Int} (h : ASt W A a b c d e f x y) : ACells W A a b c d e f x y :=
  ⟨h.1.2.2 0 _ rfl, h.1.2.2 1 _ rfl, h.1.2.2 2 _ rfl, h.1.2.2 3 _ rfl, h.1.2.2 4 _ rfl, h.1.2.2 5 _ rfl, h.2.1.2.2 0 _ rfl, h.2.1.2.2 1 _ rfl⟩
theorem ASt.drew {W : World} {A : Nat} {a b c d e f x y : Int} (h : ASt W A a b c d e f x y) : ASt W.drew A a b c d e f x y := h
theorem ASt.far {W : World} {A : Nat} {a b c d e f x y : Int} {g : Nat} (h : ASt W A a b c d e f x y) (u v : Value) (hg : A + 1 + 1 < g) : ASt ((W.setCell ⟨g, 0, none⟩ u).setCell ⟨g, 1, none⟩ v) A a b c d e f x y :=
  ⟨h.1.far2 _ _ (by omega), h.2.1.far2 _ _ (by omega), h.2.2.far2 _ _ (by omega)⟩
set_option maxRecDepth 100000 in
set_option maxHeartbeats 6400000 in
theorem rapply_any (a b c d e f x y : Int) (w : World) :
    Calls Try.prog 13 #[.agg #[.int .i64 a, .int .i64 b, .int .i64 c, .int .i64 d, .int .i64 e, .int .i64 f], .agg #[.int .i64 x, .int .i64 y]] w (RetPost (.tuple #[.agg #[.int .i64 (applyX a b c d e f x y), .int .i64 (applyY a b c d e f x y)], .int .i64 (applyE a b c d e f x y)]) w) := by
  obtain ⟨w0, hw0⟩ : ∃ w0, ((w.alloc (.cells #[.int .i64 a, .int .i64 b, .int .i64 c, .int .i64 d, .int .i64 e, .int .i64 f] 23)).alloc (.cells #[.int .i64 x, .int .i64 y] 25)).alloc (.cells #[.int .i64 0, .int .i64 0] 25) = w0 := ⟨_, rfl⟩
  have F0 : Hid (ASt w0 w.heap.size a b c d e f x y) := Lib.hid (by rw [← hw0]; exact ⟨bx3_a w _ _ _ _, bx3_b w _ _ _ _, bx3_c w _ _ _ _⟩)
  have B0 : Hid (Below w.heap.size w w0) := Lib.hid (by rw [← hw0]; exact bel3 _ _ _ _)
  obtain ⟨i0, i1, i2, i3, i4, i5, i6, i7⟩ := F0.out.cells
  go_enter Try.func13, Try.ntmps13
  go_wp2_with fail
  clear hw0
  refine (rmay_any a b c d e f w0).mono ?_
  rintro r1 w1 ⟨rfl, hb1⟩
  have F1 := Lib.hid (F0.out.later hb1)
  have B1 := Lib.hid (bthen B0.out hb1)
  clear hb1 i0 i1 i2 i3 i4 i5 i6 i7 F0 B0
  cases h1 : may a b c d e f
  · have r0 := F1.out.2.2.2.2 0 _ rfl
    have r1 := F1.out.2.2.2.2 1 _ rfl
    have rf := F1.out.2.2.2.1
    go_wp2_with fail
    refine bodyPost_ret (v := .tuple #[.agg #[.int .i64 0, .int .i64 0], .int .i64 2]) ?_ rfl ⟨?_, below_store2 B1.out (by omega) _ _⟩
    · simp [results, Try.results13, go_sem, r0, r1]
    · simp [applyX, applyY, applyE, h1]
  have j6 := F1.out.2.1.2.2 0 _ rfl
  have j7 := F1.out.2.1.2.2 1 _ rfl
  go_wp2_with fail
  refine (rfits_any x y w1).mono ?_
  rintro r2 w2 ⟨rfl, hw2⟩
  have hb2 : Below w1.heap.size w1 w2 := by rw [hw2]; exact below_alloc _ _
  have F2 := Lib.hid (F1.out.later hb2)
  have B2 := Lib.hid (bthen B1.out hb2)
  clear hw2 hb2 j6 j7 F1 B1
  cases h2 : fits x y
  · have r0 := F2.out.2.2.2.2 0 _ rfl
    have r1 := F2.out.2.2.2.2 1 _ rfl
    have rf := F2.out.2.2.2.1
    go_wp2_with fail
    refine bodyPost_ret (v := .tuple #[.agg #[.int .i64 0, .int .i64 0], .int .i64 4]) ?_ rfl ⟨?_, below_store2 B2.out (by omega) _ _⟩
    · simp [results, Try.results13, go_sem, r0, r1]
    · simp [applyX, applyY, applyE, h1, h2]
  have MB := Lib.hid (may_bd h1)
  have FB := Lib.hid (fits_bd h2)
  have H1 := Lib.hid h1
  have H2 := Lib.hid h2
  clear h1 h2
  go_wp2_with fail
  have zA : w.heap.size + 1 + 1 < w2.heap.size := F2.out.2.2.1
  have K := F2.out
  have k : Below w2.heap.size w2 w2 := Below.refl _ _
  go_cut [6] (fun s6 wx => ∃ g, s6 = .pointer (some ⟨g, 0, none⟩) ∧ w.heap.size + 1 + 1 < g ∧ BxAt wx g [.int .i64 (goes a x c y e), .int .i64 (goes b x d y f)] ∧ Below w2.heap.size w2 wx)
  case first =>
    go_region_held3 (fun w' => w'.cell? ⟨w.heap.size, 0, none⟩ = some (.int .i64 a) ∧ w'.cell? ⟨w.heap.size, 1, none⟩ = some (.int .i64 b) ∧ w'.cell? ⟨w.heap.size, 2, none⟩ = some (.int .i64 c) ∧ w'.cell? ⟨w.heap.size, 3, none⟩ = some (.int .i64 d) ∧ w'.cell? ⟨w.heap.size, 4, none⟩ = some (.int .i64 e) ∧ w'.cell? ⟨w.heap.size, 5, none⟩ = some (.int .i64 f) ∧ w'.cell? ⟨w.heap.size + 1, 0, none⟩ = some (.int .i64 x) ∧ w'.cell? ⟨w.heap.size + 1, 1, none⟩ = some (.int .i64 y))
      (first | with_reducible exact K.cells | with_reducible exact K.drew.cells | with_reducible exact (K.later (below_alloc _ _)).cells | with_reducible exact (K.later (below_alloc _ _)).drew.cells | with_reducible exact (K.far _ _ (by omega)).cells)
      (first
        | (go_at_call 48; (with_reducible refine (one_any a x c y e w2.drew MB.out.1 FB.out.1 MB.out.2.2.1 FB.out.2 MB.out.2.2.2.2.1).mono ?_); rintro r3 v1 ⟨rfl, hb⟩; have k : Below w2.heap.size w2 v1 := bel_drew hb; have K := F2.out.later k; have z1 := k.size)
        | (go_at_call 48; (with_reducible refine (one_any a x c y e _ MB.out.1 FB.out.1 MB.out.2.2.1 FB.out.2 MB.out.2.2.2.2.1).mono ?_); rintro r3 v1 ⟨rfl, hb⟩; have k : Below w2.heap.size w2 v1 := bthen (below_alloc _ _) (bel_drew hb); have K := F2.out.later k; have z1 := k.size; have N := (BxAt.new w2 [.int .i64 0, .int .i64 0] 25).later (bel_drew hb))
        | (go_at_call 48; (with_reducible refine (one_any b x d y f v1 MB.out.2.1 FB.out.1 MB.out.2.2.2.1 FB.out.2 MB.out.2.2.2.2.2).mono ?_); rintro r4 v2 ⟨rfl, hb⟩; have k := bthen k hb; have K := F2.out.later k; have z2 := k.size; (first | (have M := N.later hb; have m0 := M.2.2 0 _ rfl; have m1 := M.2.2 1 _ rfl; have mf := M.2.1; have mz := M.1; have mn := World.new_ne v2 _ m0) | skip))
        | (go_at_call 48; (with_reducible refine (one_any b x d y f _ MB.out.2.1 FB.out.1 MB.out.2.2.2.1 FB.out.2 MB.out.2.2.2.2.2).mono ?_); rintro r4 v2 ⟨rfl, hb⟩; have k := bthen k (bthen (below_alloc _ _) hb); have K := F2.out.later k; have z2 := k.size; have M := (BxAt.new v1 [.int .i64 0, .int .i64 0] 25).later hb; have m0 := M.2.2 0 _ rfl; have m1 := M.2.2 1 _ rfl; have mf := M.2.1; have mz := M.1; have mn := World.new_ne v2 _ m0))
    all_goals go_wp2_with fail
    all_goals go_meet
    · with_reducible exact ⟨_, rfl, by omega, BxAt.new v2 _ _, bthen k (below_alloc _ _)⟩
    · with_reducible exact ⟨_, rfl, by omega, M.put2 _ _, below_store2 k z1 _ _⟩
    · with_reducible exact ⟨_, rfl, by omega, M.put2 _ _, below_store2 k (Nat.le_refl _) _ _⟩
  case rest =>
    obtain ⟨g, rfl, hg, X6, k6⟩ := hcut
    have F6 := Lib.hid (F2.out.later k6)
    have X := Lib.hid X6
    have B6 := Lib.hid (bthen B2.out k6)
    have x0 := X6.2.2 0 _ rfl
    have x1 := X6.2.2 1 _ rfl
    clear X6 k6 k K F2 B2
    obtain ⟨gx, hgx⟩ : ∃ z, z = goes a x c y e := ⟨_, rfl⟩
    obtain ⟨gy, hgy⟩ : ∃ z, z = goes b x d y f := ⟨_, rfl⟩
    rw [← hgx] at x0 X
    rw [← hgy] at x1 X
    have HG := Lib.hid (And.intro hgx hgy)
    clear hgx hgy
    go_wp2_with fail
    refine (rfits_any gx gy wc).mono ?_
    rintro r5 w7 ⟨rfl, hw7⟩
    have hb7 : Below wc.heap.size wc w7 := by rw [hw7]; exact below_alloc _ _
    have F7 := Lib.hid (F6.out.later hb7)
    have X7 := Lib.hid (X.out.later hb7)
    have B7 := Lib.hid (bthen B6.out hb7)
    clear hw7 hb7 x0 x1
    have r0 := F7.out.2.2.2.2 0 _ rfl
    have r1 := F7.out.2.2.2.2 1 _ rfl
    have rf := F7.out.2.2.2.1
    cases h3 : fits gx gy
    · go_wp2_with fail
      refine bodyPost_ret (v := .tuple #[.agg #[.int .i64 0, .int .i64 0], .int .i64 4]) ?_ rfl ⟨?_, below_store2 B7.out (by omega) _ _⟩
      · simp [results, Try.results13, go_sem, r0, r1]
      · rw [HG.out.1, HG.out.2] at h3
        simp [applyX, applyY, applyE, H1.out, H2.out, h3]
    · have x0 := X7.out.2.2 0 _ rfl
      have x1 := X7.out.2.2 1 _ rfl
      go_wp2_with fail
      refine bodyPost_ret (v := .tuple #[.agg #[.int .i64 gx, .int .i64 gy], .int .i64 0]) ?_ rfl ⟨?_, below_store2 B7.out (by omega) _ _⟩
      · simp [results, Try.results13, go_sem, r0, r1]
      · rw [HG.out.1, HG.out.2] at h3 ⊢
        simp [applyX, applyY, applyE, H1.out, H2.out, h3]
end Go.Proofs.Ytbmbibjidpgbnaa
