/- Contract of find: where a name stands first. -/
import Derived.Test.YtkhdielfnphheaaTab1
namespace Go.Proofs.Ytkhdielfnphheaa
open Go.RowKit

set_option maxRecDepth 100000 in
set_option maxHeartbeats 3200000 in
theorem find_any (B : Nat) (v : Value) (tw : Bool) (N : Nat → Int) (n : Nat) (x : Int) (w : World) (h : TabV B w v tw N n) (hn : n ≤ 3600000000000) :
    Calls Try.prog 35 #[.agg #[v, .bool tw], .int .i64 x] w (RetPost (.int .i64 (fstI N x n)) w) := by
  obtain ⟨T, hT, -, p, cap, rfl, hE⟩ := h
  have TK := Lib.hid hT
  have HE := Lib.hid hE
  have hl := hT.len
  obtain ⟨L, hL⟩ : ∃ L, L = T.length := ⟨_, rfl⟩
  rw [← hL] at HE hl ⊢
  have HL := Lib.hid hL
  obtain ⟨w1, hw1⟩ : ∃ w1, w1 = w.alloc (.cells #[.slice p L cap, .bool tw] 90) := ⟨_, rfl⟩
  have B1 : Hid (Below w.heap.size w w1) := Lib.hid (by rw [hw1]; exact below_alloc _ _)
  have X1 : Hid (BxAt w1 w.heap.size [.slice p L cap, .bool tw]) := Lib.hid (by rw [hw1]; exact BxAt.new w _ _)
  have HW := Lib.hid hw1
  obtain ⟨r, hr⟩ : ∃ r, r = fstI N x n := ⟨_, rfl⟩
  rw [← hr]
  have HR := Lib.hid hr
  clear hT hE hL hw1 hr
  go_enter Try.func35, Try.ntmps35
  go_wp2_with fail
  rw [← HW.out]
  have e0 := X1.out.2.2 0 _ rfl
  have e1 := X1.out.2.2 1 _ rfl
  go_quiet (fail)
  all_goals
    obtain ⟨w2, hw2⟩ : ∃ w2, w2 = w1.drewN nq := ⟨_, rfl⟩
    have B2 : Hid (Below w1.heap.size w1 w2) := Lib.hid (by rw [hw2]; exact below_drewN (Below.refl _ _) _)
    rw [← hw2]
    clear hw2 e0 e1
    have X2 := Lib.hid (X1.out.later B2.out)
    have BW := Lib.hid (bthen B1.out B2.out)
    have e0 := X2.out.2.2 0 _ rfl
    have Lb : L ≤ 3600000000000 := by omega
    go_wp2_with fail
    go_loop [5, 6] (fun a b => ∃ lo hi : Nat, a = .int .i64 lo ∧ b = .int .i64 hi ∧ lo ≤ hi ∧ hi ≤ L ∧ (∀ i, i < lo → (T.getD i (0, 0)).1 < x) ∧ (hi < L → x ≤ (T.getD hi (0, 0)).1)) (fun a b => (intOf b).toNat - (intOf a).toNat)
    case atStart => exact ⟨0, L, rfl, rfl, by omega, Nat.le_refl _, fun i hi => by omega, fun h => by omega⟩
    case round =>
      obtain ⟨lo, hi, rfl, rfl, h1, h2, h3, h4⟩ := hrel
      have H3 := Lib.hid h3
      have H4 := Lib.hid h4
      clear h3 h4
      by_cases hlt : lo < hi
      · obtain ⟨mid, hmid⟩ : ∃ m, m = (lo + hi) / 2 := ⟨_, rfl⟩
        have m1 : lo ≤ mid := by omega
        have m2 : mid < hi := by omega
        have mI : ((lo : Int) + (hi : Int)) / 2 = (mid : Int) := by omega
        obtain ⟨A, hp, _, hen⟩ := HE.out (by omega)
        subst hp
        have en0 := cell_later (bthen B1.out B2.out) (hen.2.2 mid (by omega)).1
        obtain ⟨y, hy⟩ : ∃ y, y = (T.getD mid (0, 0)).1 := ⟨_, rfl⟩
        rw [← hy] at en0
        have HY := Lib.hid hy
        clear hy hmid hen
        by_cases hc : y < x
        · go_wp2_with fail
          refine ⟨⟨mid + 1, hi, by go_num, rfl, by omega, h2, fun i hi2 => ?_, H4.out⟩, by (first | (simp [intOf]; done) | (simp [intOf]; omega) | (simp only [intOf]; omega))⟩
          have c2 : (T.getD mid (0, 0)).1 < x := by rw [← HY.out]; exact hc
          by_cases e : i = mid
          · rw [e]; exact c2
          · have := TK.out.up i mid (by omega) (by rw [← HL.out]; omega)
            omega
        · go_wp2_with fail
          exact ⟨⟨lo, mid, rfl, by rw [mI], m1, by omega, H3.out, fun _ => by have := HY.out; omega⟩, by (first | (simp [intOf]; done) | (simp [intOf]; omega) | (simp only [intOf]; omega))⟩
      · obtain rfl : lo = hi := by omega
        have FR := Lib.hid (find_res TK.out (x := x) (lo := lo) (by rw [← HL.out]; exact h2) H3.out (fun h => H4.out (by rw [HL.out]; exact h)))
        by_cases hL2 : lo = L
        · have r1 : Hid (r = -1) := Lib.hid (by rw [HR.out]; exact FR.out.2 (fun h => by have := HL.out; omega))
          subst hL2
          go_wp2_with fail
          go_ret
          exact ⟨by rw [r1.out]; rfl, BW.out⟩
        · have hb : ((lo : Int) == (L : Int)) = false := by simp; omega
          obtain ⟨A, hp, _, hen⟩ := HE.out (by omega)
          subst hp
          obtain ⟨en0, en1⟩ := hen.2.2 lo (by omega)
          have en0 := cell_later (bthen B1.out B2.out) en0
          have en1 := cell_later (bthen B1.out B2.out) en1
          have lI : (lo : Int) < (L : Int) := by omega
          have l0 : (0 : Int) ≤ (lo : Int) := by omega
          obtain ⟨y, hy⟩ : ∃ y, y = (T.getD lo (0, 0)).1 := ⟨_, rfl⟩
          obtain ⟨z, hz⟩ : ∃ z, z = (T.getD lo (0, 0)).2 := ⟨_, rfl⟩
          rw [← hy] at en0
          rw [← hz] at en1
          have HY := Lib.hid hy
          have HZ := Lib.hid hz
          clear hy hz hen
          cases hne : (y != x)
          · have r1 : Hid (r = z) := Lib.hid (by
              rw [HR.out, HZ.out]
              refine FR.out.1 (by rw [← HL.out]; omega) ?_
              rw [← HY.out]
              simpa using hne)
            go_wp2_with fail
            go_ret
            exact ⟨by rw [r1.out]; rfl, BW.out⟩
          · have r1 : Hid (r = -1) := Lib.hid (by
              rw [HR.out]
              refine FR.out.2 fun _ => ?_
              rw [← HY.out]
              simpa using hne)
            go_wp2_with fail
            go_ret
            exact ⟨by rw [r1.out]; rfl, BW.out⟩
end Go.Proofs.Ytkhdielfnphheaa
