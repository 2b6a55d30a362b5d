/- Contracts of frisketref12.SameSegs and of the law's lives; the law PathWays. -/
import Derived.Test.YthglgempbdaikaaPb2
namespace Go.Proofs.Ythglgempbdaikaa
open Go.RowKit

set_option maxRecDepth 100000 in
set_option maxHeartbeats 3200000 in
theorem samesegs_any (v u : Value) (S : List (Pt × Pt)) (w : World) (hl : S.length ≤ 1000000000) (h : Sgs w v S) (h2 : Sgs w u S) : Calls Try.prog 7 #[v, u] w (RetPost (.bool true) w) := by
  obtain ⟨p, c, rfl, hc⟩ := h
  obtain ⟨p2, c2, rfl, hc2⟩ := h2
  have C := Lib.hid hc
  have C2 := Lib.hid hc2
  have RG := Lib.hid (fun j (hj : j < S.length) => rowS_get S j hj)
  obtain ⟨n, hn⟩ : ∃ n, n = S.length := ⟨_, rfl⟩
  rw [← hn] at C C2 RG hl ⊢
  clear hc hc2 hn
  go_enter Try.func7, Try.ntmps7
  go_wp2_with fail
  go_loopw [5] (fun i wr => ∃ k : Nat, k ≤ n ∧ i = .int .i64 k ∧ Below w.heap.size w wr) (fun i _ => n - (intOf i).toNat)
  case atStart => exact ⟨0, by omega, rfl, Below.refl _ _⟩
  case round =>
    obtain ⟨k, hk, rfl, hb⟩ := hrel
    have B := Lib.hid hb
    clear hb
    by_cases hlt : k < n
    · obtain ⟨g, rfl, hp⟩ := C.out (by omega)
      obtain ⟨g2, rfl, hp2⟩ := C2.out (by omega)
      obtain ⟨e0, e1, e2, e3⟩ := RG.out k hlt
      have a0 := cell_later B.out (hp _ _ e0)
      have a1 := cell_later B.out (hp _ _ e1)
      have a2 := cell_later B.out (hp _ _ e2)
      have a3 := cell_later B.out (hp _ _ e3)
      have b0 := cell_later B.out (hp2 _ _ e0)
      have b1 := cell_later B.out (hp2 _ _ e1)
      have b2 := cell_later B.out (hp2 _ _ e2)
      have b3 := cell_later B.out (hp2 _ _ e3)
      clear e0 e1 e2 e3 hp hp2
      have hk0 : (0 : Int) ≤ (k : Int) := by omega
      have hk3 : (k : Int) < (n : Int) := by omega
      obtain ⟨x0, hx0⟩ : ∃ x, x = (S.getD k ((0, 0), (0, 0))).1.1 := ⟨_, rfl⟩
      obtain ⟨x1, hx1⟩ : ∃ x, x = (S.getD k ((0, 0), (0, 0))).1.2 := ⟨_, rfl⟩
      obtain ⟨x2, hx2⟩ : ∃ x, x = (S.getD k ((0, 0), (0, 0))).2.1 := ⟨_, rfl⟩
      obtain ⟨x3, hx3⟩ : ∃ x, x = (S.getD k ((0, 0), (0, 0))).2.2 := ⟨_, rfl⟩
      rw [← hx0] at a0 b0
      rw [← hx1] at a1 b1
      rw [← hx2] at a2 b2
      rw [← hx3] at a3 b3
      clear hx0 hx1 hx2 hx3
      go_wp2_with fail
      go_quiet (fail)
      go_wp2_with fail
      refine ⟨⟨k + 1, by omega, by go_num, below_drewN B.out _⟩, by (first | (simp [intOf]; done) | (simp [intOf]; omega) | (simp only [intOf]; omega))⟩
    · go_wp2_with fail
      go_ret
      exact ⟨rfl, B.out⟩
/-- the steps of the law's sample -/
def fS : Nat → Nat → Int := fun j t => if t = 0 then (if j = 0 then 1 else if j = 1 then 2 else if j = 2 then 2 else if j = 3 then 5 else 0) else if t = 1 then (if j = 1 then 5 else if j = 2 then 5 else 0) else if t = 2 then (if j = 2 then 5 else 0) else 0
theorem fS_check : checkE fS 4 = 0 := by decide
theorem fS_lines : traceL fS 4 = [([(0, 0), (5, 0), (5, 5)], true)] := by decide
theorem fS_segs : (segsTo [([(0, 0), (5, 0), (5, 5)], true)] 1).length = 3 := by decide
theorem fS_sum : sumLen [([(0, 0), (5, 0), (5, 5)], true)] 1 ≤ 1000000000 := by decide
abbrev cellsS : List Value := [.int .i64 1, .int .i64 0, .int .i64 0, .int .i64 0, .int .i64 0, .int .i64 0, .int .i64 0, .int .i64 2, .int .i64 5, .int .i64 0, .int .i64 0, .int .i64 0, .int .i64 0, .int .i64 0, .int .i64 2, .int .i64 5, .int .i64 5, .int .i64 0, .int .i64 0, .int .i64 0, .int .i64 0, .int .i64 5, .int .i64 0, .int .i64 0, .int .i64 0, .int .i64 0, .int .i64 0, .int .i64 0]
theorem sts_new (w : World) : Sts (w.alloc (.cells cellsS.toArray 59)) (.slice (some ⟨w.heap.size, 0, none⟩) 4 4) 4 fS := by
  refine ⟨_, 4, rfl, by omega, fun _ => ⟨w.heap.size, 0, rfl, fun j hj t ht => ?_⟩⟩
  have h := BxAt.new w cellsS 59
  have h4 : j = 0 ∨ j = 1 ∨ j = 2 ∨ j = 3 := by omega
  have h7 : t = 0 ∨ t = 1 ∨ t = 2 ∨ t = 3 ∨ t = 4 ∨ t = 5 ∨ t = 6 := by omega
  rcases h4 with rfl | rfl | rfl | rfl <;> rcases h7 with rfl | rfl | rfl | rfl | rfl | rfl | rfl <;> exact h.2.2 _ _ rfl
set_option maxRecDepth 100000 in
set_option maxHeartbeats 3200000 in
theorem lives12 (w : World) : Calls Try.prog 10 #[] w (RetPost (.bool true) w) := by
  have TA := Lib.hid (fun W sv (h : Sts W sv 4 fS) => trace_any sv 4 fS W h)
  go_enter Try.func10, Try.ntmps10
  go_wp2_with fail
  refine (TA.out _ _ (sts_new w)).mono ?_
  rintro e1 w1 ⟨hb1, h1⟩
  rcases h1 with ⟨h0, _⟩ | ⟨_, v, rfl, hv⟩
  · exact absurd fS_check h0
  rw [fS_lines] at hv
  have SG := Lib.hid (fun W hW => segs_any v _ W hW fS_sum)
  have LV := Lib.hid hv
  obtain ⟨a, cap, rfl, _, hc⟩ := hv
  obtain ⟨g, off, rfl, hp⟩ := hc (by decide)
  obtain ⟨p, n, c, c0, c1, a2, cap2, hv2, _⟩ := hp 0 (by decide)
  simp only [Value.slice.injEq] at hv2
  obtain ⟨rfl, rfl, rfl⟩ := hv2
  have B1 := Lib.hid (bthen (below_alloc _ _) hb1)
  simp only [Nat.zero_mul, Nat.add_zero] at c0 c1
  clear hb1 hp hc
  go_wp2_with fail
  refine (SG.out w1 LV.out).mono ?_
  rintro e2 w2 ⟨hb2, v2, rfl, a3, cap3, rfl, _⟩
  have B2 := Lib.hid (bthen B1.out hb2)
  clear hb2 c0 c1
  rw [show (segsTo [([(0, 0), (5, 0), (5, 5)], true)] [(([(0, 0), (5, 0), (5, 5)] : List Pt), true)].length).length = 3 from fS_segs]
  go_wp2_with fail
  go_ret
  exact ⟨rfl, B2.out⟩
set_option maxRecDepth 100000 in
set_option maxHeartbeats 3200000 in
theorem ways_any (sv : Value) (L : List Ln) (w : World) (h : Lns w sv L) (hM : sumLen L L.length ≤ 1000000000) : Calls Try.prog 3 #[sv] w (RetPost (.bool true) w) := by
  have LN := Lib.hid h
  have A := Lib.hid (fun W hW => segs_any sv L W hW hM)
  have R := Lib.hid (fun W hW => rsegs_any sv L W hW hM)
  have SM := Lib.hid (fun v u W => samesegs_any v u (segsTo L L.length) W (Nat.le_trans (segsTo_len L L.length) hM))
  clear h hM
  go_enter Try.func3, Try.ntmps3
  go_wp2_with fail
  refine (A.out w LN.out).mono ?_
  rintro e1 w1 ⟨hb1, v1, rfl, hs1⟩
  have B1 := Lib.hid hb1
  have S1 := Lib.hid hs1
  have L1 := Lib.hid (LN.out.later hb1)
  clear hb1 hs1
  go_wp2_with fail
  refine (R.out w1 L1.out).mono ?_
  rintro e2 w2 ⟨hb2, v2, rfl, hs2⟩
  have B2 := Lib.hid (bthen B1.out hb2)
  have S2 := Lib.hid hs2
  have S1 := Lib.hid (S1.out.later hb2)
  clear hb2 hs2
  go_wp2_with fail
  refine (SM.out v1 v2 w2 S1.out S2.out).mono ?_
  rintro e3 w3 ⟨rfl, hb3⟩
  have B3 := Lib.hid (bthen B2.out hb3)
  clear hb3
  go_wp2_with fail
  refine (lives12 w3).mono ?_
  rintro e4 w4 ⟨rfl, hb4⟩
  have B4 := Lib.hid (bthen B3.out hb4)
  clear hb4
  go_wp2_with fail
  go_ret
  exact ⟨rfl, B4.out⟩
end Go.Proofs.Ythglgempbdaikaa
