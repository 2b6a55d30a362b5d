/- The law AffineKeeps over its contracts. -/
import Derived.Test.YtbmbibjidpgbnaaThr2
import Derived.Test.YtbmbibjidpgbnaaRef
namespace Go.Proofs.Ytbmbibjidpgbnaa
open Go.RowKit

theorem same_any (w : World) : Calls Try.prog 25 #[] w fun e w' => e = .returned (.agg #[.int .i64 256, .int .i64 0, .int .i64 0, .int .i64 256, .int .i64 0, .int .i64 0]) ∧ Below w.heap.size w w' := by
  go_enter Try.func25, Try.ntmps25
  go_wp2
  refine bodyPost_ret (v := .agg #[.int .i64 256, .int .i64 0, .int .i64 0, .int .i64 256, .int .i64 0, .int .i64 0]) ?_ rfl ⟨rfl, ?_⟩
  · simp [results, Try.results25, go_sem]
  · ((repeat' (first | with_reducible exact Below.refl _ _ | with_reducible assumption | with_reducible refine Below.drew ?_ | with_reducible refine Below.alloc ?_ ?_ _ | with_reducible refine Below.setCell ?_ ?_ _)) <;> (first | omega | (simp; done) | (simp; omega)))

theorem apply_lives : applyX 512 0 0 512 5 0 3 4 = 11 ∧ applyY 512 0 0 512 5 0 3 4 = 8 ∧ applyE 512 0 0 512 5 0 3 4 = 0 := by
  refine ⟨?_, ?_, ?_⟩ <;> simp [applyX, applyY, applyE, may, fits, within, goes]

set_option maxRecDepth 100000 in
set_option maxHeartbeats 1600000 in
theorem lives10 (w : World) : Calls Try.prog 20 #[] w fun e w' => e = .returned (.bool true) ∧ Below w.heap.size w w' := by
  obtain ⟨l1, l2, l3⟩ := apply_lives
  go_enter Try.func20, Try.ntmps20
  go_wp2_with (go_at_call 12; refine (apply_any _ _ _ _ _ _ _ _ _).mono ?_; rintro e w1 ⟨rfl, hb1⟩)
  go_ret
  have hz := hb1.size
  refine ⟨rfl, ?_⟩
  ((repeat' (first | with_reducible exact Below.refl _ _ | with_reducible assumption | with_reducible refine Below.drew ?_ | with_reducible refine Below.alloc ?_ ?_ _ | with_reducible refine Below.setCell ?_ ?_ _)) <;> (first | omega | (simp; done) | (simp; omega)))

def id10 : Mp := ⟨256, 0, 0, 256, 0, 0⟩
def sh (p q : Int) : Mp := ⟨256, 0, 0, 256, p, q⟩
theorem apply_same {x y : Int} (h : fits x y = true) : aX id10 x y = x ∧ aY id10 x y = y ∧ aE id10 x y = 0 := by
  have hm : may 256 0 0 256 0 0 = true := by simp [may, fits, within]
  have e1 : goes 256 x 0 y 0 = x := by unfold goes; omega
  have e2 : goes 0 x 256 y 0 = y := by unfold goes; omega
  refine ⟨?_, ?_, ?_⟩ <;> simp [aX, aY, aE, id10, applyX, applyY, applyE, hm, e1, e2, h]
theorem apply_ok {a b c d e f x y : Int} (h : applyE a b c d e f x y = 0) : (may a b c d e f && fits x y && fits (goes a x c y e) (goes b x d y f)) = true := by
  unfold applyE at h
  split at h
  · omega
  · rename_i h1
    split at h
    · rename_i h2
      simp only [Bool.not_eq_true', Bool.not_eq_false] at h1
      simpa [h1] using h2
    · omega
theorem apply_sh {p q x y : Int} (h : aE (sh p q) x y = 0) : aX (sh p q) x y = x + p ∧ aY (sh p q) x y = y + q := by
  have e1 : goes 256 x 0 y p = x + p := by unfold goes; omega
  have e2 : goes 0 x 256 y q = y + q := by unfold goes; omega
  have h3 := apply_ok h
  exact ⟨(if_pos h3).trans e1, (if_pos h3).trans e2⟩
/-- two shifts, in whatever order, where both ways go -/
theorem shifts {p q r s x y : Int} (h1 : (goT [sh p q, sh r s] x y).2.2 = 0) (h2 : (goT [sh r s, sh p q] x y).2.2 = 0) : goT [sh p q, sh r s] x y = goT [sh r s, sh p q] x y := by
  simp only [goT] at h1 h2 ⊢
  by_cases a1 : aE (sh p q) x y = 0
  · rw [if_pos a1] at h1 ⊢
    by_cases b1 : aE (sh r s) (aX (sh p q) x y) (aY (sh p q) x y) = 0
    · rw [if_pos b1]
      by_cases a2 : aE (sh r s) x y = 0
      · rw [if_pos a2] at h2 ⊢
        by_cases b2 : aE (sh p q) (aX (sh r s) x y) (aY (sh r s) x y) = 0
        · rw [if_pos b2]
          obtain ⟨u1, u2⟩ := apply_sh a1
          obtain ⟨u3, u4⟩ := apply_sh a2
          obtain ⟨u5, u6⟩ := apply_sh b1
          obtain ⟨u7, u8⟩ := apply_sh b2
          rw [u5, u6, u7, u8, u1, u2, u3, u4]
          simp only [Prod.mk.injEq, and_true]
          omega
        · rw [if_neg b2] at h2; exact absurd h2 b2
      · rw [if_neg a2] at h2; exact absurd h2 a2
    · rw [if_neg b1] at h1; exact absurd h1 b1
  · rw [if_neg a1] at h1; exact absurd h1 a1

theorem Below.of_drew {N : Nat} {W W1 : World} (h : Below N W.drew W1) : Below N W W1 := ⟨h.os, h.tape, h.output, h.size, h.block⟩
theorem Blk.of_drew {W : World} {B : Nat} {cs : Array Value} {t : TypeId} (h : Blk W.drew B cs t) : Blk W B cs t := h
theorem cell_set {W : World} {b o g o' : Nat} {u v : Value} (h : W.cell? ⟨b, o, none⟩ = some v) (hne : b ≠ g) : (W.setCell ⟨g, o', none⟩ u).cell? ⟨b, o, none⟩ = some v :=
  (World.cell?_setCell_other _ _ _ _ (by intro e; exact hne (congrArg Addr.block e).symm)).trans h

def two (m n : Mp) : Nat → Mp := fun j => if j = 0 then m else n
theorem rev_two (m n : Mp) : upto (rev 2 (two m n)) 2 = [n, m] := by simp [upto, List.range_succ, rev, two]
theorem maps_two {W : World} {g N : Nat} {p q r s : Int} (hg : g < N) (h : Blk W g #[.int .i64 256, .int .i64 0, .int .i64 0, .int .i64 256, .int .i64 p, .int .i64 q, .int .i64 256, .int .i64 0, .int .i64 0, .int .i64 256, .int .i64 r, .int .i64 s] 23) :
    Maps N W (.slice (some ⟨g, 0, none⟩) 2 2) 2 (two (sh p q) (sh r s)) := by
  refine ⟨_, _, rfl, by omega, fun _ => ⟨g, 0, rfl, hg, fun j hj => ?_⟩⟩
  obtain rfl | rfl : j = 0 ∨ j = 1 := by omega
  · exact ⟨h.cell 0, h.cell 1, h.cell 2, h.cell 3, h.cell 4, h.cell 5⟩
  · exact ⟨h.cell 6, h.cell 7, h.cell 8, h.cell 9, h.cell 10, h.cell 11⟩
def sha (p q : Int) : Array Value := #[.int .i64 256, .int .i64 0, .int .i64 0, .int .i64 256, .int .i64 p, .int .i64 q]
theorem keeps_facts {w wc W1 : World} {x y a0 a1 b0 b1 : Int}
    (hW1 : (((wc.alloc (.cells #[.int .i64 x, .int .i64 y] 25)).alloc (.cells #[.int .i64 256, .int .i64 0, .int .i64 0, .int .i64 256, .int .i64 a0, .int .i64 a1] 23)).alloc (.cells #[.int .i64 256, .int .i64 0, .int .i64 0, .int .i64 256, .int .i64 b0, .int .i64 b1] 23)).alloc
        (.cells #[.int .i64 256, .int .i64 0, .int .i64 0, .int .i64 256, .int .i64 a0, .int .i64 a1, .int .i64 256, .int .i64 0, .int .i64 0, .int .i64 256, .int .i64 b0, .int .i64 b1] 23) = W1)
    (hK : Below w.heap.size w wc ∧ Blk wc w.heap.size (pt x y) 25 ∧ Blk wc (w.heap.size + 1) (pt a0 a1) 42 ∧ Blk wc (w.heap.size + 1 + 1) (pt b0 b1) 42) :
    Below w.heap.size w W1 ∧ Blk W1 w.heap.size (pt x y) 25 ∧ Blk W1 (wc.heap.size + 1) (sha a0 a1) 23 ∧ Blk W1 (wc.heap.size + 1 + 1) (sha b0 b1) 23 ∧
      Maps W1.heap.size W1 (.slice (some ⟨wc.heap.size + 1 + 1 + 1, 0, none⟩) 2 2) 2 (two (sh a0 a1) (sh b0 b1)) := by
  obtain ⟨hb, hp, _, _⟩ := hK
  have hz := hb.size
  subst hW1
  refine ⟨by ((repeat' (first | with_reducible exact Below.refl _ _ | with_reducible assumption | with_reducible refine Below.drew ?_ | with_reducible refine Below.alloc ?_ ?_ _ | with_reducible refine Below.setCell ?_ ?_ _)) <;> (first | omega | (simp; done) | (simp; omega))), (((hp.alloc _).alloc _).alloc _).alloc _, ?_, ?_, ?_⟩
  · have := Blk.new (wc.alloc (.cells #[.int .i64 x, .int .i64 y] 25)) (sha a0 a1) 23
    rw [World.size_alloc] at this
    exact (this.alloc _).alloc _
  · have := Blk.new ((wc.alloc (.cells #[.int .i64 x, .int .i64 y] 25)).alloc (.cells (sha a0 a1) 23)) (sha b0 b1) 23
    rw [World.size_alloc, World.size_alloc] at this
    exact this.alloc _
  · refine maps_two (by simp) ?_
    have := Blk.new (((wc.alloc (.cells #[.int .i64 x, .int .i64 y] 25)).alloc (.cells (sha a0 a1) 23)).alloc (.cells (sha b0 b1) 23)) #[.int .i64 256, .int .i64 0, .int .i64 0, .int .i64 256, .int .i64 a0, .int .i64 a1, .int .i64 256, .int .i64 0, .int .i64 0, .int .i64 256, .int .i64 b0, .int .i64 b1] 23
    rw [World.size_alloc, World.size_alloc, World.size_alloc] at this
    exact this

theorem keeps_facts2 {w W2 W3 : World} {p q a0 a1 b0 b1 : Int}
    (hW3 : (W2.alloc (.cells #[.int .i64 p, .int .i64 q] 25)).alloc
        (.cells #[.int .i64 256, .int .i64 0, .int .i64 0, .int .i64 256, .int .i64 b0, .int .i64 b1, .int .i64 256, .int .i64 0, .int .i64 0, .int .i64 256, .int .i64 a0, .int .i64 a1] 23) = W3)
    (hb : Below w.heap.size w W2) :
    Below w.heap.size w W3 ∧ Blk W3 W2.heap.size (pt p q) 25 ∧ Maps W3.heap.size W3 (.slice (some ⟨W2.heap.size + 1, 0, none⟩) 2 2) 2 (two (sh b0 b1) (sh a0 a1)) := by
  have hz := hb.size
  subst hW3
  refine ⟨by ((repeat' (first | with_reducible exact Below.refl _ _ | with_reducible assumption | with_reducible refine Below.drew ?_ | with_reducible refine Below.alloc ?_ ?_ _ | with_reducible refine Below.setCell ?_ ?_ _)) <;> (first | omega | (simp; done) | (simp; omega))), (Blk.new W2 (pt p q) 25).alloc _, maps_two (by simp) ?_⟩
  have := Blk.new (W2.alloc (.cells (pt p q) 25)) #[.int .i64 256, .int .i64 0, .int .i64 0, .int .i64 256, .int .i64 b0, .int .i64 b1, .int .i64 256, .int .i64 0, .int .i64 0, .int .i64 256, .int .i64 a0, .int .i64 a1] 23
  rw [World.size_alloc] at this
  exact this

set_option maxRecDepth 100000 in
set_option maxHeartbeats 4000000 in
theorem keeps_any (x y a0 a1 b0 b1 : Int) (w : World) : Calls Try.prog 5 #[.agg #[.int .i64 x, .int .i64 y], .agg #[.int .i64 a0, .int .i64 a1], .agg #[.int .i64 b0, .int .i64 b1]] w fun e w' => e = .returned (.bool true) ∧ Below w.heap.size w w' := by
  go_enter Try.func5, Try.ntmps5
  go_upto_region 1 with fail
  obtain ⟨W0, hW0⟩ : ∃ W0, ((w.alloc (.cells #[.int .i64 x, .int .i64 y] 25)).alloc (.cells #[.int .i64 a0, .int .i64 a1] 42)).alloc (.cells #[.int .i64 b0, .int .i64 b1] 42) = W0 := ⟨_, rfl⟩
  have hB0 : Below w.heap.size w W0 := by rw [← hW0]; ((repeat' (first | with_reducible exact Below.refl _ _ | with_reducible assumption | with_reducible refine Below.drew ?_ | with_reducible refine Below.alloc ?_ ?_ _ | with_reducible refine Below.setCell ?_ ?_ _)) <;> (first | omega | (simp; done) | (simp; omega)))
  have bp : Blk W0 w.heap.size (pt x y) 25 := by rw [← hW0]; exact ((Blk.new w _ _).alloc _).alloc _
  have ba : Blk W0 (w.heap.size + 1) (pt a0 a1) 42 := by
    rw [← hW0]; have := Blk.new (w.alloc (.cells #[.int .i64 x, .int .i64 y] 25)) (pt a0 a1) 42; rw [World.size_alloc] at this
    exact this.alloc _
  have bb : Blk W0 (w.heap.size + 1 + 1) (pt b0 b1) 42 := by
    rw [← hW0]; have := Blk.new ((w.alloc (.cells #[.int .i64 x, .int .i64 y] 25)).alloc (.cells #[.int .i64 a0, .int .i64 a1] 42)) (pt b0 b1) 42; rw [World.size_alloc, World.size_alloc] at this
    exact this
  rw [hW0]
  clear hW0
  have p0 := bp.cell 0
  have p1 := bp.cell 1
  simp [pt] at p0 p1
  go_cut [7, 8] (fun s7 s8 wx => ∃ g, s7 = .pointer (some ⟨g, 0, none⟩) ∧ s8 = .int .i64 (aE id10 x y) ∧ Blk wx g (pt (aX id10 x y) (aY id10 x y)) 25 ∧ Below W0.heap.size W0 wx)
  case first =>
    have z0 := bp.lt
    have z00 := bb.lt
    have N0 : W0.heap.size ≤ W0.heap.size := Nat.le_refl _
    go_region_held3 (fun w' => w'.cell? ⟨w.heap.size, 0, none⟩ = some (.int .i64 x) ∧ w'.cell? ⟨w.heap.size, 1, none⟩ = some (.int .i64 y))
      (first | (exact ⟨p0, p1⟩) | (exact ⟨cell_alloc _ p0, cell_alloc _ p1⟩) | (exact ⟨by assumption, by assumption⟩) | (exact ⟨cell_alloc _ (by assumption), cell_alloc _ (by assumption)⟩) | (exact ⟨cell_set (cell_set (by assumption) (by omega)) (by omega), cell_set (cell_set (by assumption) (by omega)) (by omega)⟩))
      (first | (go_at_call 25; refine (same_any _).mono ?_; rintro e w1 ⟨rfl, hb1⟩; obtain ⟨hc1, hf1⟩ := bcell hb1; have z1 := hb1.size; (try simp only [World.size_drew] at hc1 hf1 z1); (try simp only [World.cell?_drew] at hc1); (try simp only [World.frozen?_drew] at hf1); (try simp only [World.size_alloc] at hc1 hf1 z1); have s0 : w1.cell? ⟨w.heap.size, 0, none⟩ = some (.int .i64 x) := (hc1 _ _ (by omega)).trans (by first | exact p0 | exact cell_alloc _ p0); have s1 : w1.cell? ⟨w.heap.size, 1, none⟩ = some (.int .i64 y) := (hc1 _ _ (by omega)).trans (by first | exact p1 | exact cell_alloc _ p1)) | (go_at_call 12; refine (apply_any _ _ _ _ _ _ _ _ _).mono ?_; rintro e w2 ⟨rfl, hb2⟩; obtain ⟨hc2, hf2⟩ := bcell hb2; have z2 := hb2.size; (try simp only [World.size_alloc] at hc2 hf2 z2); have t0 : w2.cell? ⟨w.heap.size, 0, none⟩ = some (.int .i64 x) := (hc2 _ _ (by omega)).trans (by first | exact s0 | exact cell_alloc _ s0); have t1 : w2.cell? ⟨w.heap.size, 1, none⟩ = some (.int .i64 y) := (hc2 _ _ (by omega)).trans (by first | exact s1 | exact cell_alloc _ s1); first | (have q0 : w2.cell? ⟨w1.heap.size, 0, none⟩ = some (.int .i64 0) := (hc2 _ _ (by omega)).trans (World.cell?_alloc_new _ _ _ _); have q1 : w2.cell? ⟨w1.heap.size, 1, none⟩ = some (.int .i64 0) := (hc2 _ _ (by omega)).trans (World.cell?_alloc_new _ _ _ _); have r0 : w2.frozen? ⟨w1.heap.size, 0, none⟩ = false := (hf2 _ _ (by omega)).trans (by simp [go_sem]); have r1 : w2.frozen? ⟨w1.heap.size, 1, none⟩ = false := (hf2 _ _ (by omega)).trans (by simp [go_sem])) | (have q0 : w2.cell? ⟨W0.heap.size, 0, none⟩ = some (.int .i64 0) := (hc2 _ _ (by omega)).trans ((hc1 _ _ (by omega)).trans (World.cell?_alloc_new _ _ _ _)); have q1 : w2.cell? ⟨W0.heap.size, 1, none⟩ = some (.int .i64 0) := (hc2 _ _ (by omega)).trans ((hc1 _ _ (by omega)).trans (World.cell?_alloc_new _ _ _ _)); have r0 : w2.frozen? ⟨W0.heap.size, 0, none⟩ = false := (hf2 _ _ (by omega)).trans ((hf1 _ _ (by omega)).trans (by simp [go_sem])); have r1 : w2.frozen? ⟨W0.heap.size, 1, none⟩ = false := (hf2 _ _ (by omega)).trans ((hf1 _ _ (by omega)).trans (by simp [go_sem]))) | skip))
    all_goals go_wp2_with fail
    all_goals go_meet
    · have k1 : Below W0.heap.size W0 w1 := Below.of_drew hb1
      exact ⟨_, rfl, rfl, Blk.new _ _ _, (k1.trans (hb2.mono z1)).alloc (by omega) _⟩
    · have k1 : Below W0.heap.size W0 w1 := Below.of_drew hb1
      have k2 : Below W0.heap.size W0 w2 := (k1.alloc z1 _).trans (hb2.mono (by simp; omega))
      exact ⟨_, rfl, rfl, ((((Blk.new w1 (pt 0 0) 25).later hb2).set 0 _).set 1 _), (k2.setCell (p := ⟨w1.heap.size, 0, none⟩) z1 _).setCell (p := ⟨w1.heap.size, 1, none⟩) z1 _⟩
    · have k1 : Below (W0.alloc (.cells #[.int .i64 0, .int .i64 0] 25)).heap.size (W0.alloc (.cells #[.int .i64 0, .int .i64 0] 25)) w1 := Below.of_drew hb1
      have k0 : Below W0.heap.size W0 w1 := ((Below.refl _ W0).alloc (Nat.le_refl _) _).trans (k1.mono (by simp))
      have k2 : Below W0.heap.size W0 w2 := k0.trans (hb2.mono (by omega))
      exact ⟨_, rfl, rfl, (((((Blk.new W0 (pt 0 0) 25).later k1).later hb2).set 0 _).set 1 _), (k2.setCell (p := ⟨W0.heap.size, 0, none⟩) (Nat.le_refl _) _).setCell (p := ⟨W0.heap.size, 1, none⟩) (Nat.le_refl _) _⟩
  case rest =>
    obtain ⟨g, rfl, rfl, hg, hbx⟩ := hcut
    have B1 := hB0.trans (hbx.mono hB0.size)
    have cp := bp.later hbx
    have ca := ba.later hbx
    have cb := bb.later hbx
    have x0 := cp.cell 0
    have x1 := cp.cell 1
    have a0' := ca.cell 0
    have a1' := ca.cell 1
    have b0' := cb.cell 0
    have b1' := cb.cell 1
    have g0 := hg.cell 0
    have g1 := hg.cell 1
    simp [pt] at x0 x1 a0' a1' b0' b1' g0 g1
    have zp := cp.lt
    have za := ca.lt
    have zb := cb.lt
    have zg := hg.lt
    have zp0 : w.heap.size < wc.heap.size := by omega
    have zp1 : w.heap.size < wc.heap.size + 1 := by omega
    have zp2 : w.heap.size < wc.heap.size + 1 + 1 := by omega
    have zp3 : w.heap.size < wc.heap.size + 1 + 1 + 1 := by omega
    have zp4 : w.heap.size < wc.heap.size + 1 + 1 + 1 + 1 := by omega
    have zp5 : w.heap.size < wc.heap.size + 1 + 1 + 1 + 1 + 1 := by omega
    have za0 : w.heap.size + 1 < wc.heap.size := by omega
    have za1 : w.heap.size + 1 < wc.heap.size + 1 := by omega
    have za2 : w.heap.size + 1 < wc.heap.size + 1 + 1 := by omega
    have za3 : w.heap.size + 1 < wc.heap.size + 1 + 1 + 1 := by omega
    have za4 : w.heap.size + 1 < wc.heap.size + 1 + 1 + 1 + 1 := by omega
    have za5 : w.heap.size + 1 < wc.heap.size + 1 + 1 + 1 + 1 + 1 := by omega
    have zb0 : w.heap.size + 1 + 1 < wc.heap.size := by omega
    have zb1 : w.heap.size + 1 + 1 < wc.heap.size + 1 := by omega
    have zb2 : w.heap.size + 1 + 1 < wc.heap.size + 1 + 1 := by omega
    have zb3 : w.heap.size + 1 + 1 < wc.heap.size + 1 + 1 + 1 := by omega
    have zb4 : w.heap.size + 1 + 1 < wc.heap.size + 1 + 1 + 1 + 1 := by omega
    have zb5 : w.heap.size + 1 + 1 < wc.heap.size + 1 + 1 + 1 + 1 + 1 := by omega
    have zg0 : g < wc.heap.size := by omega
    have zg1 : g < wc.heap.size + 1 := by omega
    have zg2 : g < wc.heap.size + 1 + 1 := by omega
    have zg3 : g < wc.heap.size + 1 + 1 + 1 := by omega
    have zg4 : g < wc.heap.size + 1 + 1 + 1 + 1 := by omega
    have zg5 : g < wc.heap.size + 1 + 1 + 1 + 1 + 1 := by omega
    have K0 := Lib.hid (And.intro B1 (And.intro cp (And.intro ca cb)))
    clear bp ba bb p0 p1 hbx hB0 B1 cp ca cb hg
    cases hfit : fits x y
    · go_wp2_with (go_at_call 17; refine (rfits_any _ _ _).mono ?_; rintro e w' ⟨rfl, rfl⟩)
      obtain ⟨W1, hW1⟩ : ∃ W1, (((wc.alloc (.cells #[.int .i64 x, .int .i64 y] 25)).alloc (.cells #[.int .i64 256, .int .i64 0, .int .i64 0, .int .i64 256, .int .i64 a0, .int .i64 a1] 23)).alloc (.cells #[.int .i64 256, .int .i64 0, .int .i64 0, .int .i64 256, .int .i64 b0, .int .i64 b1] 23)).alloc
        (.cells #[.int .i64 256, .int .i64 0, .int .i64 0, .int .i64 256, .int .i64 a0, .int .i64 a1, .int .i64 256, .int .i64 0, .int .i64 0, .int .i64 256, .int .i64 b0, .int .i64 b1] 23) = W1 := ⟨_, rfl⟩
      have F := keeps_facts hW1 K0.out
      rw [hW1]
      clear hW1 x0 x1 a0' a1' b0' b1' g0 g1 K0 zp za zb zg zp0 zp1 zp2 zp3 zp4 zp5 za0 za1 za2 za3 za4 za5 zb0 zb1 zb2 zb3 zb4 zb5 zg0 zg1 zg2 zg3 zg4 zg5
      obtain ⟨B1, cp, cm, cn, hM⟩ := F
      refine (through_any _ 2 2 (two (sh a0 a1) (sh b0 b1)) x y W1 hM).mono ?_
      rintro e W2 ⟨rfl, hb2⟩
      have B2 := B1.trans (hb2.mono B1.size)
      have cp2 := cp.later hb2
      have cm2 := cm.later hb2
      have cn2 := cn.later hb2
      have x0 := cp2.cell 0
      have x1 := cp2.cell 1
      have m0 := cm2.cell 0
      have m1 := cm2.cell 1
      have m2 := cm2.cell 2
      have m3 := cm2.cell 3
      have m4 := cm2.cell 4
      have m5 := cm2.cell 5
      have n0 := cn2.cell 0
      have n1 := cn2.cell 1
      have n2 := cn2.cell 2
      have n3 := cn2.cell 3
      have n4 := cn2.cell 4
      have n5 := cn2.cell 5
      simp [pt, sha] at x0 x1 m0 m1 m2 m3 m4 m5 n0 n1 n2 n3 n4 n5
      have zp := cp2.lt
      have zm := cm2.lt
      have zn := cn2.lt
      have zp0 : w.heap.size < W2.heap.size := by omega
      have zp1 : w.heap.size < W2.heap.size + 1 := by omega
      have zp2 : w.heap.size < W2.heap.size + 1 + 1 := by omega
      have zm0 : wc.heap.size + 1 < W2.heap.size := by omega
      have zm1 : wc.heap.size + 1 < W2.heap.size + 1 := by omega
      have zm2 : wc.heap.size + 1 < W2.heap.size + 1 + 1 := by omega
      have zn0 : wc.heap.size + 1 + 1 < W2.heap.size := by omega
      have zn1 : wc.heap.size + 1 + 1 < W2.heap.size + 1 := by omega
      have zn2 : wc.heap.size + 1 + 1 < W2.heap.size + 1 + 1 := by omega
      have K2 := Lib.hid (And.intro B2 (And.intro cp2 (And.intro cm2 cn2)))
      clear cp cm cn B1 B2 cp2 cm2 cn2 hb2 hM
      rw [rev_two]
      generalize hr1 : goT [sh b0 b1, sh a0 a1] x y = r1
      have R1 := Lib.hid hr1
      clear hr1
      go_wp2_with fail
      obtain ⟨W3, hW3⟩ : ∃ W3, (W2.alloc (.cells #[.int .i64 r1.1, .int .i64 r1.2.1] 25)).alloc
        (.cells #[.int .i64 256, .int .i64 0, .int .i64 0, .int .i64 256, .int .i64 b0, .int .i64 b1, .int .i64 256, .int .i64 0, .int .i64 0, .int .i64 256, .int .i64 a0, .int .i64 a1] 23) = W3 := ⟨_, rfl⟩
      have F := keeps_facts2 hW3 K2.out.1
      rw [hW3]
      clear hW3 x0 x1 m0 m1 m2 m3 m4 m5 n0 n1 n2 n3 n4 n5 zp zm zn zp0 zp1 zp2 zm0 zm1 zm2 zn0 zn1 zn2 K2
      obtain ⟨B3, cy, hM⟩ := F
      refine (through_any _ 2 2 (two (sh b0 b1) (sh a0 a1)) x y W3 hM).mono ?_
      rintro e W4 ⟨rfl, hb4⟩
      have B4 := B3.trans (hb4.mono B3.size)
      have cy4 := cy.later hb4
      have y0 := cy4.cell 0
      have y1 := cy4.cell 1
      simp [pt] at y0 y1
      have zy := cy4.lt
      have zy0 : W2.heap.size < W4.heap.size := by omega
      have zy1 : W2.heap.size < W4.heap.size + 1 := by omega
      have zy2 : W2.heap.size < W4.heap.size + 1 + 1 := by omega
      have K4 := Lib.hid B4
      clear cy B3 B4 cy4 hb4 hM
      rw [rev_two]
      generalize hr2 : goT [sh a0 a1, sh b0 b1] x y = r2
      have R2 := Lib.hid hr2
      clear hr2
      have hsame : r1.2.2 = 0 → r2.2.2 = 0 → r1 = r2 := fun h1 h2 => by
        rw [← R1.out] at h1 ⊢
        rw [← R2.out] at h2 ⊢
        exact shifts h1 h2
      have HS := Lib.hid hsame
      clear hsame
      by_cases e1 : r1.2.2 = 0
      · by_cases e2 : r2.2.2 = 0
        · obtain rfl := HS.out e1 e2
          clear R1 R2 HS e2
          go_wp2_with (go_at_call 20; refine (lives10 _).mono ?_; rintro e w9 ⟨rfl, hb9⟩; have B9 := Lib.hid hb9; clear hb9)
          go_ret
          refine ⟨rfl, ?_⟩
          have hz := K4.out.size
          refine Below.trans ?_ (B9.out.mono (by simp; omega))
          exact K4.out.alloc hz _
        · clear HS R1 R2
          go_wp2_with (go_at_call 20; refine (lives10 _).mono ?_; rintro e w9 ⟨rfl, hb9⟩; have B9 := Lib.hid hb9; clear hb9)
          go_ret
          refine ⟨rfl, ?_⟩
          have hz := K4.out.size
          refine Below.trans ?_ (B9.out.mono (by simp; omega))
          exact K4.out.alloc hz _
      · clear HS R1 R2
        go_wp2_with (go_at_call 20; refine (lives10 _).mono ?_; rintro e w9 ⟨rfl, hb9⟩; have B9 := Lib.hid hb9; clear hb9)
        go_ret
        refine ⟨rfl, ?_⟩
        have hz := K4.out.size
        refine Below.trans ?_ (B9.out.mono (by simp; omega))
        exact K4.out.alloc hz _
    · obtain ⟨q1, q2, q3⟩ := apply_same hfit
      rw [q1] at g0
      rw [q2] at g1
      rw [q3]
      clear q1 q2 q3
      go_wp2_with (go_at_call 17; refine (rfits_any _ _ _).mono ?_; rintro e w' ⟨rfl, rfl⟩)
      obtain ⟨W1, hW1⟩ : ∃ W1, (((wc.alloc (.cells #[.int .i64 x, .int .i64 y] 25)).alloc (.cells #[.int .i64 256, .int .i64 0, .int .i64 0, .int .i64 256, .int .i64 a0, .int .i64 a1] 23)).alloc (.cells #[.int .i64 256, .int .i64 0, .int .i64 0, .int .i64 256, .int .i64 b0, .int .i64 b1] 23)).alloc
        (.cells #[.int .i64 256, .int .i64 0, .int .i64 0, .int .i64 256, .int .i64 a0, .int .i64 a1, .int .i64 256, .int .i64 0, .int .i64 0, .int .i64 256, .int .i64 b0, .int .i64 b1] 23) = W1 := ⟨_, rfl⟩
      have F := keeps_facts hW1 K0.out
      rw [hW1]
      clear hW1 x0 x1 a0' a1' b0' b1' g0 g1 K0 zp za zb zg zp0 zp1 zp2 zp3 zp4 zp5 za0 za1 za2 za3 za4 za5 zb0 zb1 zb2 zb3 zb4 zb5 zg0 zg1 zg2 zg3 zg4 zg5
      obtain ⟨B1, cp, cm, cn, hM⟩ := F
      refine (through_any _ 2 2 (two (sh a0 a1) (sh b0 b1)) x y W1 hM).mono ?_
      rintro e W2 ⟨rfl, hb2⟩
      have B2 := B1.trans (hb2.mono B1.size)
      have cp2 := cp.later hb2
      have cm2 := cm.later hb2
      have cn2 := cn.later hb2
      have x0 := cp2.cell 0
      have x1 := cp2.cell 1
      have m0 := cm2.cell 0
      have m1 := cm2.cell 1
      have m2 := cm2.cell 2
      have m3 := cm2.cell 3
      have m4 := cm2.cell 4
      have m5 := cm2.cell 5
      have n0 := cn2.cell 0
      have n1 := cn2.cell 1
      have n2 := cn2.cell 2
      have n3 := cn2.cell 3
      have n4 := cn2.cell 4
      have n5 := cn2.cell 5
      simp [pt, sha] at x0 x1 m0 m1 m2 m3 m4 m5 n0 n1 n2 n3 n4 n5
      have zp := cp2.lt
      have zm := cm2.lt
      have zn := cn2.lt
      have zp0 : w.heap.size < W2.heap.size := by omega
      have zp1 : w.heap.size < W2.heap.size + 1 := by omega
      have zp2 : w.heap.size < W2.heap.size + 1 + 1 := by omega
      have zm0 : wc.heap.size + 1 < W2.heap.size := by omega
      have zm1 : wc.heap.size + 1 < W2.heap.size + 1 := by omega
      have zm2 : wc.heap.size + 1 < W2.heap.size + 1 + 1 := by omega
      have zn0 : wc.heap.size + 1 + 1 < W2.heap.size := by omega
      have zn1 : wc.heap.size + 1 + 1 < W2.heap.size + 1 := by omega
      have zn2 : wc.heap.size + 1 + 1 < W2.heap.size + 1 + 1 := by omega
      have K2 := Lib.hid (And.intro B2 (And.intro cp2 (And.intro cm2 cn2)))
      clear cp cm cn B1 B2 cp2 cm2 cn2 hb2 hM
      rw [rev_two]
      generalize hr1 : goT [sh b0 b1, sh a0 a1] x y = r1
      have R1 := Lib.hid hr1
      clear hr1
      go_wp2_with fail
      obtain ⟨W3, hW3⟩ : ∃ W3, (W2.alloc (.cells #[.int .i64 r1.1, .int .i64 r1.2.1] 25)).alloc
        (.cells #[.int .i64 256, .int .i64 0, .int .i64 0, .int .i64 256, .int .i64 b0, .int .i64 b1, .int .i64 256, .int .i64 0, .int .i64 0, .int .i64 256, .int .i64 a0, .int .i64 a1] 23) = W3 := ⟨_, rfl⟩
      have F := keeps_facts2 hW3 K2.out.1
      rw [hW3]
      clear hW3 x0 x1 m0 m1 m2 m3 m4 m5 n0 n1 n2 n3 n4 n5 zp zm zn zp0 zp1 zp2 zm0 zm1 zm2 zn0 zn1 zn2 K2
      obtain ⟨B3, cy, hM⟩ := F
      refine (through_any _ 2 2 (two (sh b0 b1) (sh a0 a1)) x y W3 hM).mono ?_
      rintro e W4 ⟨rfl, hb4⟩
      have B4 := B3.trans (hb4.mono B3.size)
      have cy4 := cy.later hb4
      have y0 := cy4.cell 0
      have y1 := cy4.cell 1
      simp [pt] at y0 y1
      have zy := cy4.lt
      have zy0 : W2.heap.size < W4.heap.size := by omega
      have zy1 : W2.heap.size < W4.heap.size + 1 := by omega
      have zy2 : W2.heap.size < W4.heap.size + 1 + 1 := by omega
      have K4 := Lib.hid B4
      clear cy B3 B4 cy4 hb4 hM
      rw [rev_two]
      generalize hr2 : goT [sh a0 a1, sh b0 b1] x y = r2
      have R2 := Lib.hid hr2
      clear hr2
      have hsame : r1.2.2 = 0 → r2.2.2 = 0 → r1 = r2 := fun h1 h2 => by
        rw [← R1.out] at h1 ⊢
        rw [← R2.out] at h2 ⊢
        exact shifts h1 h2
      have HS := Lib.hid hsame
      clear hsame
      by_cases e1 : r1.2.2 = 0
      · by_cases e2 : r2.2.2 = 0
        · obtain rfl := HS.out e1 e2
          clear R1 R2 HS e2
          go_wp2_with (go_at_call 20; refine (lives10 _).mono ?_; rintro e w9 ⟨rfl, hb9⟩; have B9 := Lib.hid hb9; clear hb9)
          go_ret
          refine ⟨rfl, ?_⟩
          have hz := K4.out.size
          refine Below.trans ?_ (B9.out.mono (by simp; omega))
          exact K4.out.alloc hz _
        · clear HS R1 R2
          go_wp2_with (go_at_call 20; refine (lives10 _).mono ?_; rintro e w9 ⟨rfl, hb9⟩; have B9 := Lib.hid hb9; clear hb9)
          go_ret
          refine ⟨rfl, ?_⟩
          have hz := K4.out.size
          refine Below.trans ?_ (B9.out.mono (by simp; omega))
          exact K4.out.alloc hz _
      · clear HS R1 R2
        go_wp2_with (go_at_call 20; refine (lives10 _).mono ?_; rintro e w9 ⟨rfl, hb9⟩; have B9 := Lib.hid hb9; clear hb9)
        go_ret
        refine ⟨rfl, ?_⟩
        have hz := K4.out.size
        refine Below.trans ?_ (B9.out.mono (by simp; omega))
        exact K4.out.alloc hz _
end Go.Proofs.Ytbmbibjidpgbnaa
