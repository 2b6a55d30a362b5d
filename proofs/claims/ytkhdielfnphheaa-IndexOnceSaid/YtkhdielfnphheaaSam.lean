/- Equal paths, rasters and paints are the same to the reference. -/
import Derived.Test.YtkhdielfnphheaaMay0
namespace Go.Proofs.Ytkhdielfnphheaa
open Go.RowKit

def QuietPost (v : Value) (w : World) (e : Ending) (w' : World) : Prop := e = .returned v ∧ ∃ m, w' = w.drewN m
theorem below_drewN' (w : World) (m : Nat) : Below w.heap.size w (w.drewN m) := below_drewN (Below.refl _ _) m
theorem eq_pt (d : Nat) (a b : Int) (W : World) : (Op.equalIn (d + 1 + 1) 35 (.agg #[.int .i64 a, .int .i64 b]) (.agg #[.int .i64 a, .int .i64 b])).run Try.prog W = .ok true W := by
  go_simp
theorem Try.arr97 : Try.prog.underlying 97 = some (.array 3 35) := by kernel_rfl
theorem Try.info35 : (Try.prog.info? 35).map (fun i => (i.zero, i.size, i.bytes)) = some (some (.agg #[.int .i64 0, .int .i64 0]), 2, 16) := by kernel_rfl
theorem Try.struct35 : ∃ l, Try.prog.underlying 35 = some (.struct l) := struct_of (by kernel_rfl)
theorem eq_arr (d : Nat) (a b c e f g : Int) (W : World) : (Op.equalIn (d + 1 + 1 + 1) 97 (.agg #[.int .i64 a, .int .i64 b, .int .i64 c, .int .i64 e, .int .i64 f, .int .i64 g]) (.agg #[.int .i64 a, .int .i64 b, .int .i64 c, .int .i64 e, .int .i64 f, .int .i64 g])).run Try.prog W = .ok true W := by
  obtain ⟨i0, hi, hz0, hz1, hz2⟩ := info_parts Try.info35
  obtain ⟨l, hl⟩ := Try.struct35
  have h3 : List.range' 0 3 = [0, 1, 2] := rfl
  have hag : ∀ W, (isAgg 35).run Try.prog W = .ok true W := fun W => by simp [isAgg, run_underlying hl]
  have hso : ∀ W, (sizeOf 35).run Try.prog W = .ok 2 W := fun W => by simp [sizeOf, typeInfo, hi, hz1]
  rw [Op.equalIn]
  simp [run_underlying Try.arr97, go_sem, h3, hag, hso, eq_pt]
set_option maxRecDepth 100000 in
set_option maxHeartbeats 1600000 in
theorem steps30 (v u : Value) (n : Nat) (F : Nat → Nat → Int) (w : World) (h : Row w v n 7 (stF F)) (h2 : Row w u n 7 (stF F)) (hn : n ≤ 4000000000000) : Calls Try.prog 30 #[v, u] w (QuietPost (.bool true) w) := by
  obtain ⟨p, c, rfl, -, hc⟩ := h
  obtain ⟨p2, c2, rfl, -, hc2⟩ := h2
  have C := Lib.hid hc
  have C2 := Lib.hid hc2
  clear hc hc2
  go_enter Try.func30, Try.ntmps30
  go_wp2_with fail
  go_loopw [5] (fun i wr => ∃ k : Nat, k ≤ n ∧ i = .int .i64 k ∧ ∃ m, wr = w.drewN m) (fun i _ => n - (intOf i).toNat)
  case atStart => exact ⟨0, by omega, rfl, 0, rfl⟩
  case round =>
    obtain ⟨k, hk, rfl, m, rfl⟩ := hrel
    by_cases hlt : k < n
    · obtain ⟨g, off, rfl, hp⟩ := C.out (by omega)
      obtain ⟨g2, off2, rfl, hp2⟩ := C2.out (by omega)
      have c0 : w.cell? ⟨g, off + k * 7, none⟩ = some (.int .i64 (F k 0)) := hp k 0 hlt (by omega)
      have d0 : w.cell? ⟨g2, off2 + k * 7, none⟩ = some (.int .i64 (F k 0)) := hp2 k 0 hlt (by omega)
      have c1 : w.cell? ⟨g, off + k * 7 + 1, none⟩ = some (.int .i64 (F k 1)) := hp k 1 hlt (by omega)
      have d1 : w.cell? ⟨g2, off2 + k * 7 + 1, none⟩ = some (.int .i64 (F k 1)) := hp2 k 1 hlt (by omega)
      have c2 : w.cell? ⟨g, off + k * 7 + 2, none⟩ = some (.int .i64 (F k 2)) := hp k 2 hlt (by omega)
      have d2 : w.cell? ⟨g2, off2 + k * 7 + 2, none⟩ = some (.int .i64 (F k 2)) := hp2 k 2 hlt (by omega)
      have c3 : w.cell? ⟨g, off + k * 7 + 3, none⟩ = some (.int .i64 (F k 3)) := hp k 3 hlt (by omega)
      have d3 : w.cell? ⟨g2, off2 + k * 7 + 3, none⟩ = some (.int .i64 (F k 3)) := hp2 k 3 hlt (by omega)
      have c4 : w.cell? ⟨g, off + k * 7 + 4, none⟩ = some (.int .i64 (F k 4)) := hp k 4 hlt (by omega)
      have d4 : w.cell? ⟨g2, off2 + k * 7 + 4, none⟩ = some (.int .i64 (F k 4)) := hp2 k 4 hlt (by omega)
      have c5 : w.cell? ⟨g, off + k * 7 + 5, none⟩ = some (.int .i64 (F k 5)) := hp k 5 hlt (by omega)
      have d5 : w.cell? ⟨g2, off2 + k * 7 + 5, none⟩ = some (.int .i64 (F k 5)) := hp2 k 5 hlt (by omega)
      have c6 : w.cell? ⟨g, off + k * 7 + 6, none⟩ = some (.int .i64 (F k 6)) := hp k 6 hlt (by omega)
      have d6 : w.cell? ⟨g2, off2 + k * 7 + 6, none⟩ = some (.int .i64 (F k 6)) := hp2 k 6 hlt (by omega)
      obtain ⟨x0, h0⟩ : ∃ x, x = F k 0 := ⟨_, rfl⟩
      rw [← h0] at c0 d0
      obtain ⟨x1, h1⟩ : ∃ x, x = F k 1 := ⟨_, rfl⟩
      rw [← h1] at c1 d1
      obtain ⟨x2, h2⟩ : ∃ x, x = F k 2 := ⟨_, rfl⟩
      rw [← h2] at c2 d2
      obtain ⟨x3, h3⟩ : ∃ x, x = F k 3 := ⟨_, rfl⟩
      rw [← h3] at c3 d3
      obtain ⟨x4, h4⟩ : ∃ x, x = F k 4 := ⟨_, rfl⟩
      rw [← h4] at c4 d4
      obtain ⟨x5, h5⟩ : ∃ x, x = F k 5 := ⟨_, rfl⟩
      rw [← h5] at c5 d5
      obtain ⟨x6, h6⟩ : ∃ x, x = F k 6 := ⟨_, rfl⟩
      rw [← h6] at c6 d6
      have hk0 : (0 : Int) ≤ (k : Int) := by omega
      have hk3 : (k : Int) < (n : Int) := by omega
      have EQ : ∀ W, (Op.equalIn 9999 97 (.agg #[.int .i64 x1, .int .i64 x2, .int .i64 x3, .int .i64 x4, .int .i64 x5, .int .i64 x6]) (.agg #[.int .i64 x1, .int .i64 x2, .int .i64 x3, .int .i64 x4, .int .i64 x5, .int .i64 x6])).run Try.prog W = .ok true W := fun W => eq_arr 9996 x1 x2 x3 x4 x5 x6 W
      clear hp hp2 h0 h1 h2 h3 h4 h5 h6
      go_wp2_with fail
      go_quiet (fail)
      go_wp2_with fail
      refine ⟨⟨k + 1, by omega, by go_num, _, rfl⟩, by (first | (simp [intOf]; done) | (simp [intOf]; omega) | (simp only [intOf]; omega))⟩
    · have kI : ¬ (k : Int) < (n : Int) := by omega
      go_wp2_with fail
      go_ret
      exact ⟨rfl, _, rfl⟩
set_option maxRecDepth 100000 in
set_option maxHeartbeats 1600000 in
theorem rsame22 (W H : Int) (p q : Option Addr) (c c' n : Nat) (F : Nat → Nat → Int) (w : World) (h : Row w (.slice p n c) n 4 (pxF F)) (h2 : Row w (.slice q n c') n 4 (pxF F)) (hn : n ≤ 140737488355328) :
    Calls Try.prog 22 #[.agg #[.int .i64 W, .int .i64 H, .slice p n c], .agg #[.int .i64 W, .int .i64 H, .slice q n c']] w (RetPost (.bool true) w) := by
  obtain ⟨w1, hw1⟩ : ∃ w1, w1 = (w.alloc (.cells #[.int .i64 W, .int .i64 H, .slice p n c] 38)).alloc (.cells #[.int .i64 W, .int .i64 H, .slice q n c'] 38) := ⟨_, rfl⟩
  obtain ⟨A, hA⟩ : ∃ A, A = w.heap.size := ⟨_, rfl⟩
  have B1 : Hid (Below w.heap.size w w1) := Lib.hid (by rw [hw1]; exact bel2 _ _ _)
  have X1 : Hid (BxAt w1 A [.int .i64 W, .int .i64 H, .slice p n c]) := Lib.hid (by rw [hw1, hA]; exact (BxAt.new w _ _).later (below_alloc _ _))
  have Y1 : Hid (BxAt w1 (A + 1) [.int .i64 W, .int .i64 H, .slice q n c']) := Lib.hid (by rw [hw1, hA]; exact bx_b w _ _ _)
  have R1 := Lib.hid (h.later B1.out)
  have R2 := Lib.hid (h2.later B1.out)
  have HW := Lib.hid (And.intro hw1 hA)
  clear hw1 hA h h2
  have a0 := X1.out.2.2 0 _ rfl
  have a1 := X1.out.2.2 1 _ rfl
  have a2 := X1.out.2.2 2 _ rfl
  have b0 := Y1.out.2.2 0 _ rfl
  have b1 := Y1.out.2.2 1 _ rfl
  have b2 := Y1.out.2.2 2 _ rfl
  go_enter Try.func22, Try.ntmps22
  go_upto_region 1 with (fail)
  rw [← HW.out.2, ← HW.out.1]
  go_wp2_with fail
  clear a0 a1 b0 b1
  go_loopw [5] (fun i wr => ∃ k : Nat, k ≤ n ∧ i = .int .i64 k ∧ ∃ m, wr = w1.drewN m) (fun i _ => n - (intOf i).toNat)
  case atStart => exact ⟨0, by omega, rfl, 0, rfl⟩
  case round =>
    obtain ⟨k, hk, rfl, m, rfl⟩ := hrel
    by_cases hlt : k < n
    · obtain ⟨a, ca, ha, -, hc⟩ := R1.out
      obtain ⟨rfl, rfl⟩ : p = a ∧ c = ca := by simpa using ha
      obtain ⟨b, cb, hb, -, hc2⟩ := R2.out
      obtain ⟨rfl, rfl⟩ : q = b ∧ c' = cb := by simpa using hb
      obtain ⟨g, off, rfl, hp⟩ := hc (by omega)
      obtain ⟨g2, off2, rfl, hp2⟩ := hc2 (by omega)
      have c0 : w1.cell? ⟨g, off + k * 4, none⟩ = some (.int .u8 (F k 0)) := hp k 0 hlt (by omega)
      have d0 : w1.cell? ⟨g2, off2 + k * 4, none⟩ = some (.int .u8 (F k 0)) := hp2 k 0 hlt (by omega)
      have c1 : w1.cell? ⟨g, off + k * 4 + 1, none⟩ = some (.int .u8 (F k 1)) := hp k 1 hlt (by omega)
      have d1 : w1.cell? ⟨g2, off2 + k * 4 + 1, none⟩ = some (.int .u8 (F k 1)) := hp2 k 1 hlt (by omega)
      have c2 : w1.cell? ⟨g, off + k * 4 + 2, none⟩ = some (.int .u8 (F k 2)) := hp k 2 hlt (by omega)
      have d2 : w1.cell? ⟨g2, off2 + k * 4 + 2, none⟩ = some (.int .u8 (F k 2)) := hp2 k 2 hlt (by omega)
      have c3 : w1.cell? ⟨g, off + k * 4 + 3, none⟩ = some (.int .u8 (F k 3)) := hp k 3 hlt (by omega)
      have d3 : w1.cell? ⟨g2, off2 + k * 4 + 3, none⟩ = some (.int .u8 (F k 3)) := hp2 k 3 hlt (by omega)
      obtain ⟨x0, h0⟩ : ∃ x, x = F k 0 := ⟨_, rfl⟩
      rw [← h0] at c0 d0
      obtain ⟨x1, h1⟩ : ∃ x, x = F k 1 := ⟨_, rfl⟩
      rw [← h1] at c1 d1
      obtain ⟨x2, h2⟩ : ∃ x, x = F k 2 := ⟨_, rfl⟩
      rw [← h2] at c2 d2
      obtain ⟨x3, h3⟩ : ∃ x, x = F k 3 := ⟨_, rfl⟩
      rw [← h3] at c3 d3
      have hk0 : (0 : Int) ≤ (k : Int) := by omega
      have hk3 : (k : Int) < (n : Int) := by omega
      clear hp hp2 h0 h1 h2 h3 hc hc2 ha hb
      go_wp2_with fail
      go_quiet (fail)
      go_wp2_with fail
      refine ⟨⟨k + 1, by omega, by go_num, _, rfl⟩, by (first | (simp [intOf]; done) | (simp [intOf]; omega) | (simp only [intOf]; omega))⟩
    · have kI : ¬ (k : Int) < (n : Int) := by omega
      go_wp2_with fail
      go_ret
      exact ⟨rfl, bthen B1.out (below_drewN' w1 m)⟩
set_option maxRecDepth 100000 in
set_option maxHeartbeats 3200000 in
theorem psame10 (k c0 c1 c2 c3 d0 d1 d2 d3 px py qx qy r : Int) (w : World) :
    Calls Try.prog 10 #[.agg (paintL k c0 c1 c2 c3 d0 d1 d2 d3 px py qx qy r), .agg (paintL k c0 c1 c2 c3 d0 d1 d2 d3 px py qx qy r)] w (RetPost (.bool true) w) := by
  obtain ⟨w1, hw1⟩ : ∃ w1, w1 = (w.alloc (.cells (paintL k c0 c1 c2 c3 d0 d1 d2 d3 px py qx qy r) 40)).alloc (.cells (paintL k c0 c1 c2 c3 d0 d1 d2 d3 px py qx qy r) 40) := ⟨_, rfl⟩
  have B1 : Hid (Below w.heap.size w w1) := Lib.hid (by rw [hw1]; exact bel2 _ _ _)
  have HW := Lib.hid (show w1 = _ ∧ (0 : Nat) = 0 from ⟨hw1, rfl⟩)
  clear hw1
  have C := Lib.hid (rsame22 0 0 none none 0 0 0 (fun _ _ => 0) w1 (Row.nil _ _ _) (Row.nil _ _ _) (by decide))
  go_enter Try.func10, Try.ntmps10
  go_wp2_with fail
  rw [← HW.out.1]
  refine C.out.mono ?_
  rintro e w2 ⟨rfl, hb⟩
  have BB := Lib.hid (bthen B1.out hb)
  clear hb C
  go_wp2_with fail
  go_ret
  exact ⟨rfl, BB.out⟩
end Go.Proofs.Ytkhdielfnphheaa
