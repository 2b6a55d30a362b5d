/- Contract of affine.Apply. -/
import Derived.Test.YtbmbibjidpgbnaaAff
import Derived.Deep.RegionHeld3
namespace Go.Proofs.Ytbmbibjidpgbnaa
open Go.RowKit

theorem bcell {W w1 : World} (hb : Below W.heap.size W w1) : (∀ b o, b < W.heap.size → w1.cell? ⟨b, o, none⟩ = W.cell? ⟨b, o, none⟩) ∧ (∀ b o, b < W.heap.size → w1.frozen? ⟨b, o, none⟩ = W.frozen? ⟨b, o, none⟩) :=
  ⟨fun b o h => hb.cell (p := ⟨b, o, none⟩) h, fun b o h => hb.frozen (p := ⟨b, o, none⟩) h⟩

theorem cell_alloc {W : World} {a : Addr} {v : Value} (o : Obj) (h : W.cell? a = some v) : (W.alloc o).cell? a = some v := by
  rw [World.cell?_alloc_some _ _ _ (by rw [h]; rfl)]; exact h
theorem frozen_alloc {W : World} {b k : Nat} (o : Obj) (hb : b < W.heap.size) (h : W.frozen? ⟨b, k, none⟩ = false) : (W.alloc o).frozen? ⟨b, k, none⟩ = false := by
  rw [((Below.refl _ W).alloc (Nat.le_refl _) o).frozen (p := ⟨b, k, none⟩) hb]; exact h
theorem frozen_later {W W1 : World} {b k : Nat} (hB : Below W.heap.size W W1) (hb : b < W.heap.size) (h : W.frozen? ⟨b, k, none⟩ = false) : W1.frozen? ⟨b, k, none⟩ = false := by
  rw [hB.frozen (p := ⟨b, k, none⟩) hb]; exact h

set_option maxRecDepth 100000 in
set_option maxHeartbeats 1600000 in
theorem apply_any (a b c d e f x y : Int) (w : World) :
    Calls Try.prog 12 #[.agg #[.int .i64 a, .int .i64 b, .int .i64 c, .int .i64 d, .int .i64 e, .int .i64 f], .agg #[.int .i64 x, .int .i64 y]] w fun r w' =>
      r = .returned (.tuple #[.agg #[.int .i64 (applyX a b c d e f x y), .int .i64 (applyY a b c d e f x y)], .int .i64 (applyE a b c d e f x y)]) ∧ Below w.heap.size w w' := by
  cases h1 : may a b c d e f
  · go_enter Try.func12, Try.ntmps12
    go_wp2_with (go_at_call 14; refine (may_any _ _ _ _ _ _ _).mono ?_; rintro e w1 ⟨rfl, hb1⟩; obtain ⟨hc, hf⟩ := bcell hb1)
    have hz : w.heap.size + 1 + 1 < w1.heap.size := by have := hb1.size; simp at this; omega
    refine bodyPost_ret (v := .tuple #[.agg #[.int .i64 0, .int .i64 0], .int .i64 2]) ?_ rfl ⟨?_, ?_⟩
    · simp [results, Try.results12, go_sem, hc]
    · simp [applyX, applyY, applyE, h1]
    · exact ((((((Below.refl _ _).alloc (Nat.le_refl _) _).alloc (by simp) _).alloc (by simp; omega) _).trans (hb1.mono (by simp; omega))).setCell (by simp; omega) _).setCell (by simp; omega) _
  cases h2 : fits x y
  · go_enter Try.func12, Try.ntmps12
    go_wp2_with (first
      | (go_at_call 14; refine (may_any _ _ _ _ _ _ _).mono ?_; rintro e w1 ⟨rfl, hb1⟩; obtain ⟨hc, hf⟩ := bcell hb1; have hz : w.heap.size + 1 + 1 < w1.heap.size := by have := hb1.size; simp at this; omega)
      | (go_at_call 16; refine (fits_any _ _ _).mono ?_; rintro e w' ⟨rfl, rfl⟩))
    refine bodyPost_ret (v := .tuple #[.agg #[.int .i64 0, .int .i64 0], .int .i64 4]) ?_ rfl ⟨?_, ?_⟩
    · simp [results, Try.results12, go_sem, hc, hz]
    · simp [applyX, applyY, applyE, h1, h2]
    · have hbW : Below w.heap.size w w1 := ((((Below.refl _ _).alloc (Nat.le_refl _) _).alloc (by simp) _).alloc (by simp; omega) _).trans (hb1.mono (by simp; omega))
      ((repeat' (first | with_reducible exact Below.refl _ _ | with_reducible assumption | with_reducible refine Below.drew ?_ | with_reducible refine Below.alloc ?_ ?_ _ | with_reducible refine Below.setCell ?_ ?_ _)) <;> (first | omega | (simp; done) | (simp; omega)))
  have hm := may_bd h1
  have hp := fits_bd h2
  obtain ⟨ha, hb, hc', hd, he, hff⟩ := hm
  obtain ⟨hx, hy⟩ := hp
  have p1 := mul_bd ha hx
  have p2 := mul_bd hc' hy
  have p3 := mul_bd hb hx
  have p4 := mul_bd hd hy
  obtain ⟨p11, p12⟩ := p1
  obtain ⟨p21, p22⟩ := p2
  obtain ⟨p31, p32⟩ := p3
  obtain ⟨p41, p42⟩ := p4
  obtain ⟨he1, he2⟩ := he
  obtain ⟨hf1, hf2⟩ := hff
  simp only [Int.reduceMul, Int.reduceNeg] at p11 p12 p21 p22 p31 p32 p41 p42
  clear ha hb hc' hd hx hy
  go_enter Try.func12, Try.ntmps12
  go_wp2_with (first
      | (go_at_call 14; refine (may_any _ _ _ _ _ _ _).mono ?_; rintro e w1 ⟨rfl, hb1⟩; obtain ⟨hc, hf⟩ := bcell hb1; have hz : w.heap.size + 1 + 1 < w1.heap.size := by have := hb1.size; simp at this; omega)
      | (go_at_call 16; refine (fits_any _ _ _).mono ?_; rintro e w' ⟨rfl, rfl⟩))
  obtain ⟨W2, hW2⟩ : ∃ W2, w1.alloc (Obj.cells #[Value.int IntKind.i64 x, Value.int IntKind.i64 y] 25) = W2 := ⟨_, rfl⟩
  have l0 : W2.cell? ⟨w.heap.size, 0, none⟩ = some (.int .i64 a) := by rw [← hW2]; exact cell_alloc _ (cell_later hb1 (by simp [go_sem]))
  have l1 : W2.cell? ⟨w.heap.size, 1, none⟩ = some (.int .i64 b) := by rw [← hW2]; exact cell_alloc _ (cell_later hb1 (by simp [go_sem]))
  have l2 : W2.cell? ⟨w.heap.size, 2, none⟩ = some (.int .i64 c) := by rw [← hW2]; exact cell_alloc _ (cell_later hb1 (by simp [go_sem]))
  have l3 : W2.cell? ⟨w.heap.size, 3, none⟩ = some (.int .i64 d) := by rw [← hW2]; exact cell_alloc _ (cell_later hb1 (by simp [go_sem]))
  have l4 : W2.cell? ⟨w.heap.size, 4, none⟩ = some (.int .i64 e) := by rw [← hW2]; exact cell_alloc _ (cell_later hb1 (by simp [go_sem]))
  have l5 : W2.cell? ⟨w.heap.size, 5, none⟩ = some (.int .i64 f) := by rw [← hW2]; exact cell_alloc _ (cell_later hb1 (by simp [go_sem]))
  have l6 : W2.cell? ⟨w.heap.size + 1, 0, none⟩ = some (.int .i64 x) := by rw [← hW2]; exact cell_alloc _ (cell_later hb1 (by simp [go_sem]))
  have l7 : W2.cell? ⟨w.heap.size + 1, 1, none⟩ = some (.int .i64 y) := by rw [← hW2]; exact cell_alloc _ (cell_later hb1 (by simp [go_sem]))
  have q2 : W2.cell? ⟨w.heap.size + 1 + 1, 0, none⟩ = some (.int .i64 0) := by rw [← hW2]; exact cell_alloc _ (cell_later hb1 (by simp [go_sem]))
  have q3 : W2.cell? ⟨w.heap.size + 1 + 1, 1, none⟩ = some (.int .i64 0) := by rw [← hW2]; exact cell_alloc _ (cell_later hb1 (by simp [go_sem]))
  have q4 : ∀ k, W2.frozen? ⟨w.heap.size + 1 + 1, k, none⟩ = false := by intro k; rw [← hW2]; exact frozen_alloc _ (by omega) (frozen_later hb1 (by simp) (by simp [go_sem]))
  have hz2 : w.heap.size + 1 + 1 + 1 < W2.heap.size := by rw [← hW2]; simp; omega
  have hbW : Below w.heap.size w W2 := by
    rw [← hW2]
    exact ((((((Below.refl _ _).alloc (Nat.le_refl _) _).alloc (by simp) _).alloc (by simp; omega) _).trans (hb1.mono (by simp; omega))).alloc (by omega) _)
  rw [hW2]
  clear hW2 hc hf hb1 hz
  have e0 := World.new_ne W2 _ l0
  have e1 := World.new_ne W2 _ l6
  have g0 : IntKind.i64.wrap (a * x) = a * x := IntWalk.i64_in _ (by omega)
  have g1 : IntKind.i64.wrap (c * y) = c * y := IntWalk.i64_in _ (by omega)
  have g2 : IntKind.i64.wrap (b * x) = b * x := IntWalk.i64_in _ (by omega)
  have g3 : IntKind.i64.wrap (d * y) = d * y := IntWalk.i64_in _ (by omega)
  have g4 : IntKind.i64.wrap (a * x + c * y) = a * x + c * y := IntWalk.i64_in _ (by omega)
  have g5 : IntKind.i64.wrap (b * x + d * y) = b * x + d * y := IntWalk.i64_in _ (by omega)
  have g6 : IntKind.i64.wrap ((a * x + c * y + 128) / 256 + e) = goes a x c y e := IntWalk.i64_in _ (by omega)
  have g7 : IntKind.i64.wrap ((b * x + d * y + 128) / 256 + f) = goes b x d y f := IntWalk.i64_in _ (by omega)
  go_region_held3 (fun w' => w'.cell? ⟨w.heap.size, 0, none⟩ = some (.int .i64 a) ∧ w'.cell? ⟨w.heap.size, 1, none⟩ = some (.int .i64 b) ∧ w'.cell? ⟨w.heap.size, 2, none⟩ = some (.int .i64 c) ∧
      w'.cell? ⟨w.heap.size, 3, none⟩ = some (.int .i64 d) ∧ w'.cell? ⟨w.heap.size, 4, none⟩ = some (.int .i64 e) ∧ w'.cell? ⟨w.heap.size, 5, none⟩ = some (.int .i64 f) ∧
      w'.cell? ⟨w.heap.size + 1, 0, none⟩ = some (.int .i64 x) ∧ w'.cell? ⟨w.heap.size + 1, 1, none⟩ = some (.int .i64 y)) (go_keep)
      (first | (go_at_call 47; refine (near_any _ _ (by omega) (by omega)).mono ?_; rintro e w' ⟨rfl, rfl⟩))
  all_goals clear g0 g1 g2 g3 g4 g5 g6 g7
  all_goals
    have z0 : w.heap.size < W2.heap.size := by omega
    have z1 : w.heap.size + 1 < W2.heap.size := by omega
    have z2 : w.heap.size + 1 + 1 < W2.heap.size := by omega
    clear l0 l1 l2 l3 l4 l5 l6 l7 e0 e1 p11 p12 p21 p22 p31 p32 p41 p42 he1 he2 hf1 hf2
    cases h3 : fits (goes a x c y e) (goes b x d y f)
    · go_wp2_with (go_at_call 16; refine (fits_any _ _ _).mono ?_; rintro e w' ⟨rfl, rfl⟩)
      refine bodyPost_ret (v := .tuple #[.agg #[.int .i64 0, .int .i64 0], .int .i64 4]) ?_ rfl ⟨?_, ?_⟩
      · simp [results, Try.results12, go_sem, q2, q3, z1, z2]
      · simp [applyX, applyY, applyE, h1, h2, h3]
      · ((repeat' (first | with_reducible exact Below.refl _ _ | with_reducible assumption | with_reducible refine Below.drew ?_ | with_reducible refine Below.alloc ?_ ?_ _ | with_reducible refine Below.setCell ?_ ?_ _)) <;> (first | omega | (simp; done) | (simp; omega)))
    · go_wp2_with (go_at_call 16; refine (fits_any _ _ _).mono ?_; rintro e w' ⟨rfl, rfl⟩)
      refine bodyPost_ret (v := .tuple #[.agg #[.int .i64 (goes a x c y e), .int .i64 (goes b x d y f)], .int .i64 0]) ?_ rfl ⟨?_, ?_⟩
      · simp [results, Try.results12, go_sem, q2, q3, z1, z2]
      · simp [applyX, applyY, applyE, h1, h2, h3]
      · ((repeat' (first | with_reducible exact Below.refl _ _ | with_reducible assumption | with_reducible refine Below.drew ?_ | with_reducible refine Below.alloc ?_ ?_ _ | with_reducible refine Below.setCell ?_ ?_ _)) <;> (first | omega | (simp; done) | (simp; omega)))

end Go.Proofs.Ytbmbibjidpgbnaa
