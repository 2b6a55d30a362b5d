/- Contracts of the reference's Same, of points and of lines. -/
import Derived.Test.YthglgempbdaikaaPb0
namespace Go.Proofs.Ythglgempbdaikaa
open Go.RowKit

def QuietPost (v : Value) (w : World) (e : Ending) (w' : World) : Prop := e = .returned v ∧ ∃ m, w' = w.drewN m
theorem below_drewN' (w : World) (m : Nat) : Below w.heap.size w (w.drewN m) := below_drewN (Below.refl _ _) m
set_option maxRecDepth 100000 in
set_option maxHeartbeats 1600000 in
theorem same28_any (v u : Value) (l : List Pt) (w : World) (h : LnV w v l) (h2 : LnV w u l) : Calls Try.prog 28 #[v, u] w (QuietPost (.bool true) w) := by
  obtain ⟨p, c, rfl, hn, hc⟩ := h
  obtain ⟨p2, c2, rfl, _, hc2⟩ := h2
  have C := Lib.hid hc
  have C2 := Lib.hid hc2
  obtain ⟨n, hnl⟩ : ∃ n, n = l.length := ⟨_, rfl⟩
  rw [← hnl] at hn C C2 ⊢
  clear hc hc2 hnl
  go_enter Try.func28, Try.ntmps28
  go_wp2_with fail
  go_loopw [5] (fun i wr => ∃ k : Nat, k ≤ n ∧ i = .int .i64 k ∧ ∃ m, wr = w.drewN m) (fun i _ => n - (intOf i).toNat)
  case atStart => exact ⟨0, by omega, rfl, 0, rfl⟩
  case round =>
    obtain ⟨k, hk, rfl, m, rfl⟩ := hrel
    by_cases hlt : k < n
    · obtain ⟨g, off, rfl, hp⟩ := C.out (by omega)
      obtain ⟨g2, off2, rfl, hp2⟩ := C2.out (by omega)
      obtain ⟨c0, c1⟩ := hp k hlt
      obtain ⟨d0, d1⟩ := hp2 k hlt
      dsimp only at c0 c1 d0 d1
      have hk0 : (0 : Int) ≤ (k : Int) := by omega
      have hk3 : (k : Int) < (n : Int) := by omega
      obtain ⟨x, hx⟩ : ∃ x, x = (l.getD k (0, 0)).1 := ⟨_, rfl⟩
      obtain ⟨y, hy⟩ : ∃ y, y = (l.getD k (0, 0)).2 := ⟨_, rfl⟩
      rw [← hx] at c0 d0
      rw [← hy] at c1 d1
      clear hp hp2 hx hy
      go_wp2_with fail
      go_quiet (fail)
      go_wp2_with fail
      refine ⟨⟨k + 1, by omega, by go_num, _, rfl⟩, by (first | (simp [intOf]; done) | (simp [intOf]; omega) | (simp only [intOf]; omega))⟩
    · go_wp2_with fail
      go_ret
      exact ⟨rfl, _, rfl⟩
set_option maxRecDepth 100000 in
set_option maxHeartbeats 1600000 in
theorem samel_any (v u : Value) (L : List Ln) (w : World) (h : Lns w v L) (h2 : Lns w u L) : Calls Try.prog 15 #[v, u] w (QuietPost (.bool true) w) := by
  obtain ⟨p, c, rfl, hn, hc⟩ := h
  obtain ⟨p2, c2, rfl, _, hc2⟩ := h2
  have C := Lib.hid hc
  have C2 := Lib.hid hc2
  obtain ⟨n, hnl⟩ : ∃ n, n = L.length := ⟨_, rfl⟩
  rw [← hnl] at hn C C2 ⊢
  clear hc hc2 hnl
  go_enter Try.func15, Try.ntmps15
  go_wp2_with fail
  go_loopw [5] (fun i wr => ∃ k : Nat, k ≤ n ∧ i = .int .i64 k ∧ ∃ m, wr = w.drewN m) (fun i _ => n - (intOf i).toNat)
  case atStart => exact ⟨0, by omega, rfl, 0, rfl⟩
  case round =>
    obtain ⟨k, hk, rfl, m, hwr⟩ := hrel
    have HW := Lib.hid hwr
    have BW : Hid (Below w.heap.size w wr) := Lib.hid (by rw [hwr]; exact below_drewN' w m)
    clear hwr
    by_cases hlt : k < n
    · obtain ⟨g, off, rfl, hp⟩ := C.out (by omega)
      obtain ⟨g2, off2, rfl, hp2⟩ := C2.out (by omega)
      obtain ⟨p1, n1, k1, a0, a1, hl1⟩ := hp k hlt
      obtain ⟨p2, n2, k2, b0, b1, hl2⟩ := hp2 k hlt
      have a0 := cell_later BW.out a0
      have a1 := cell_later BW.out a1
      have b0 := cell_later BW.out b0
      have b1 := cell_later BW.out b1
      have hl1 := hl1.later BW.out
      have hl2 := hl2.later BW.out
      have hk0 : (0 : Int) ≤ (k : Int) := by omega
      have hk3 : (k : Int) < (n : Int) := by omega
      obtain ⟨bb, hbb⟩ : ∃ x, x = (L.getD k ([], false)).2 := ⟨_, rfl⟩
      rw [← hbb] at a1 b1
      have SM : Hid (∀ j, Calls Try.prog 28 #[.slice p1 n1 k1, .slice p2 n2 k2] (wr.drewN j) (QuietPost (.bool true) (wr.drewN j))) := Lib.hid (fun j => same28_any _ _ _ _ (hl1.later (below_drewN' wr j)) (hl2.later (below_drewN' wr j)))
      have e1 : (bb != bb) = false := by simp
      clear hp hp2 hbb hl1 hl2
      go_wp2_with fail
      go_quiet ((go_at_call 28; exact Calls.quiet_of (SM.out _)))
      go_wp2_with fail
      refine ⟨⟨k + 1, by omega, by go_num, m + nq, by rw [HW.out, World.drewN_drewN]⟩, by (first | (simp [intOf]; done) | (simp [intOf]; omega) | (simp only [intOf]; omega))⟩
    · go_wp2_with fail
      go_ret
      exact ⟨rfl, _, HW.out⟩
end Go.Proofs.Ythglgempbdaikaa
