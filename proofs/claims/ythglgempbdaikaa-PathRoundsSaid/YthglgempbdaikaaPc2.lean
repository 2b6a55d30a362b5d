/- The law PathRounds. -/
import Derived.Test.YthglgempbdaikaaPc1
import Derived.Test.YthglgempbdaikaaPb3
namespace Go.Proofs.Ythglgempbdaikaa
open Go.RowKit

theorem checkE_ok {F : Nat → Nat → Int} {n : Nat} (h : checkE F n = 0) : n ≤ 200 ∧ chk F n = 0 := by
  unfold checkE at h
  split at h
  · cases h
  · exact ⟨by omega, h⟩
theorem trace_small {F : Nat → Nat → Int} {n : Nat} (h : checkE F n = 0) : (traceL F n).length ≤ 201 ∧ sumLen (traceL F n) (traceL F n).length ≤ 7000 ∧ costT F n ≤ 6400 := by
  obtain ⟨hn, hc⟩ := checkE_ok h
  have h1 := (fin_len (traceT F n) false).2
  have h2 := (trace_len F n).2
  have h3 := costT_le F n
  have h4 := (few_trace hc n (Nat.le_refl _)).fin (c := false)
  have h5 : (traceL F n).length ≤ 201 := by unfold traceL; omega
  refine ⟨h5, ?_, by omega⟩
  rw [sumLen_sumD]
  have : sumD (traceL F n) ≤ costT F n + (traceL F n).length := h4
  omega
theorem one_cases (a b x y : Int) : ((a == x) = true ∧ (b == y) = true ∧ (if ((a, b) : Pt) = (x, y) then (1 : Int) else 0) = 1) ∨ ((a == x) = false ∧ (if ((a, b) : Pt) = (x, y) then (1 : Int) else 0) = 0) ∨ ((a == x) = true ∧ (b == y) = false ∧ (if ((a, b) : Pt) = (x, y) then (1 : Int) else 0) = 0) := by
  cases h1 : (a == x)
  · refine Or.inr (Or.inl ⟨rfl, if_neg fun h => ?_⟩)
    simp only [Prod.mk.injEq] at h
    simp [h.1] at h1
  · cases h2 : (b == y)
    · refine Or.inr (Or.inr ⟨rfl, rfl, if_neg fun h => ?_⟩)
      simp only [Prod.mk.injEq] at h
      simp [h.2] at h2
    · rw [beq_iff_eq] at h1 h2
      exact Or.inl ⟨rfl, rfl, if_pos (by rw [h1, h2])⟩
set_option maxRecDepth 100000 in
set_option maxHeartbeats 6400000 in
theorem rounds_any (sv : Value) (n : Nat) (F : Nat → Nat → Int) (px py : Int) (w : World) (h : Sts w sv n F) : Calls Try.prog 5 #[sv, .agg #[.int .i64 px, .int .i64 py]] w (RetPost (.bool true) w) := by
  have TA := Lib.hid (fun W (hW : Sts W sv n F) => trace_any sv n F W hW)
  have CA := Lib.hid (fun W (hW : Sts W sv n F) => count_any sv n F W hW)
  have H := Lib.hid h
  clear h
  obtain ⟨w0, hw0⟩ : ∃ w0, w.alloc (.cells #[.int .i64 px, .int .i64 py] 42) = w0 := ⟨_, rfl⟩
  obtain ⟨A, hA⟩ : ∃ A, A = w.heap.size := ⟨_, rfl⟩
  have X0 : Hid (BxAt w0 A [.int .i64 px, .int .i64 py]) := Lib.hid (by rw [← hw0, hA]; exact BxAt.new w _ _)
  have B0 : Hid (Below w.heap.size w w0) := Lib.hid (by rw [← hw0]; exact below_alloc _ _)
  have WA := Lib.hid hA
  go_enter Try.func5, Try.ntmps5
  go_wp2_with fail
  rw [← hA]
  clear hw0 hA
  refine (TA.out w0 (H.out.later B0.out)).mono ?_
  rintro e1 w1 ⟨hb1, h1⟩
  have B1 := Lib.hid (bthen B0.out hb1)
  have X1 := Lib.hid (X0.out.later hb1)
  clear hb1
  obtain ⟨ce, hce⟩ : ∃ ce, ce = checkE F n := ⟨_, rfl⟩
  rw [← hce] at h1
  have CE := Lib.hid hce
  clear hce
  rcases h1 with ⟨h0, rfl⟩ | ⟨h0, v, rfl, hv⟩
  · have h00 : (ce == 0) = false := by simpa using h0
    go_wp2_with fail
    refine (lives12 w1).mono ?_
    rintro e2 w2 ⟨rfl, hb2⟩
    have B2 := Lib.hid (bthen B1.out hb2)
    clear hb2
    go_wp2_with fail
    go_ret
    exact ⟨rfl, B2.out⟩
  · have CZ : Hid (checkE F n = 0) := Lib.hid (by rw [← CE.out]; exact h0)
    clear h0
    obtain ⟨t1, t2, t3⟩ := trace_small CZ.out
    have FW := few_ways (checkE_ok CZ.out).2
    have BS := Lib.hid (bal_segs (px, py) (traceL F n) (traceL F n).length)
    have NE := Lib.hid (segs_ne (traceL F n) (traceL F n).length)
    have SL := segsTo_len (traceL F n) (traceL F n).length
    have SA := Lib.hid (fun W hW => segs_any v (traceL F n) W hW (by omega))
    obtain ⟨S, hS⟩ : ∃ S, S = segsTo (traceL F n) (traceL F n).length := ⟨_, rfl⟩
    rw [← hS] at FW BS NE SL SA
    obtain ⟨cost, hcost⟩ : ∃ c, c = costT F n := ⟨_, rfl⟩
    rw [← hcost] at FW t3
    have HC := Lib.hid hcost
    have LV := Lib.hid hv
    obtain ⟨av, capv, rfl, _, _⟩ := hv
    obtain ⟨ln, hln⟩ : ∃ c, c = (traceL F n).length := ⟨_, rfl⟩
    rw [← hln] at FW t1 SA LV ⊢
    obtain ⟨sl, hsl⟩ : ∃ c, c = S.length := ⟨_, rfl⟩
    have hsl7 : sl ≤ 7000 := by omega
    rw [← hsl] at FW
    have SN := Lib.hid hsl
    have LN := Lib.hid hln
    clear hS hcost hln hsl t2 SL
    go_wp2_with fail
    refine (SA.out w1 LV.out).mono ?_
    rintro e2 w2 ⟨hb2, v2, rfl, a2, cap2, rfl, hs2⟩
    have B2 := Lib.hid (bthen B1.out hb2)
    have X2 := Lib.hid (X1.out.later hb2)
    have SG := Lib.hid hs2
    have RG := Lib.hid (fun j (hj : j < S.length) => rowS_get S j hj)
    rw [← SN.out] at SG RG ⊢
    clear hb2 hs2
    go_wp2_with fail
    go_loopw [8, 9] (fun c i wr => ∃ k : Nat, k ≤ sl ∧ i = .int .i64 k ∧ c = .int .i64 (bal (px, py) (S.take k)) ∧ Below w2.heap.size w2 wr) (fun _ i _ => sl - (intOf i).toNat)
    case atStart => exact ⟨0, by omega, rfl, rfl, Below.refl _ _⟩
    case round =>
      obtain ⟨k, hk, rfl, rfl, hb⟩ := hrel
      have B := Lib.hid hb
      clear hb
      by_cases hlt : k < sl
      · obtain ⟨g, rfl, hp⟩ := SG.out (by omega)
        have hltS : k < S.length := by rw [← SN.out]; exact hlt
        obtain ⟨e0, e1, e2, e3⟩ := RG.out k hlt
        have NEk := NE.out (S.getD k ((0, 0), (0, 0))) (by rw [List.getD_eq_getElem?_getD, List.getElem?_eq_getElem hltS]; exact List.getElem_mem hltS)
        have BT := bal_take (px, py) S k hltS
        have BL := bal_le (px, py) (S.take k)
        have TL : (S.take k).length ≤ sl := by rw [List.length_take]; omega
        have a0 := cell_later B.out (hp _ _ e0)
        have a1 := cell_later B.out (hp _ _ e1)
        have a2 := cell_later B.out (hp _ _ e2)
        have a3 := cell_later B.out (hp _ _ e3)
        have x0 := (X2.out.later B.out).2.2 0 _ rfl
        have x1 := (X2.out.later B.out).2.2 1 _ rfl
        obtain ⟨s, hs⟩ : ∃ s, s = S.getD k ((0, 0), (0, 0)) := ⟨_, rfl⟩
        rw [← hs] at a0 a1 a2 a3 NEk BT
        obtain ⟨⟨qa, qb⟩, qc, qd⟩ := s
        dsimp only at a0 a1 a2 a3 NEk
        have HA := one_cases qa qb px py
        have HB := one_cases qc qd px py
        have HN : ((qa == qc) = false) ∨ ((qa == qc) = true ∧ (qb == qd) = false) := by
          cases h1 : (qa == qc)
          · exact Or.inl rfl
          · cases h2 : (qb == qd)
            · exact Or.inr ⟨rfl, rfl⟩
            · rw [beq_iff_eq] at h1 h2
              exact absurd (by rw [h1, h2]) NEk
        obtain ⟨z, hz⟩ : ∃ z, z = bal (px, py) (S.take k) := ⟨_, rfl⟩
        rw [← hz] at BT BL ⊢
        have BD : Hid (bal (px, py) (S.take (k + 1)) = z + ((if ((qa, qb) : Pt) = (px, py) then (1 : Int) else 0) - (if ((qc, qd) : Pt) = (px, py) then (1 : Int) else 0))) := Lib.hid BT
        obtain ⟨da, hda⟩ : ∃ d : Int, d = (if ((qa, qb) : Pt) = (px, py) then (1 : Int) else 0) := ⟨_, rfl⟩
        obtain ⟨db, hdb⟩ : ∃ d : Int, d = (if ((qc, qd) : Pt) = (px, py) then (1 : Int) else 0) := ⟨_, rfl⟩
        rw [← hda] at HA BD
        rw [← hdb] at HB BD
        have hz1 : -8000 ≤ z := by omega
        have hz2 : z ≤ 8000 := by omega
        have hk0 : (0 : Int) ≤ (k : Int) := by omega
        have hk3 : (k : Int) < (sl : Int) := by omega
        clear hs e0 e1 e2 e3 hp NEk BT BL TL hz hda hdb hltS
        rcases HN with m1 | ⟨m1, m2⟩ <;> rcases HA with ⟨n1, n2, rfl⟩ | ⟨n1, rfl⟩ | ⟨n1, n2, rfl⟩ <;> rcases HB with ⟨o1, o2, rfl⟩ | ⟨o1, rfl⟩ | ⟨o1, o2, rfl⟩
        all_goals
          go_wp2_with fail
          go_quiet (fail)
          go_wp2_with fail
          go_quiet (fail)
          go_wp2_with fail
          go_quiet (fail)
          go_wp2_with fail
          refine ⟨⟨k + 1, by omega, by go_num, by rw [BD.out]; go_num, by repeat (first | exact B.out | refine below_drewN ?_ _)⟩, by (first | (simp [intOf]; done) | (simp [intOf]; omega) | (simp only [intOf]; omega))⟩
      · obtain rfl : k = sl := by omega
        have hzero : bal (px, py) (S.take k) = 0 := by rw [SN.out, List.take_length]; exact BS.out
        rw [hzero]
        clear hzero
        go_wp2_with fail
        refine (CA.out wr (H.out.later (B2.out.trans (B.out.mono B2.out.size)))).mono ?_
        rintro e3 w3 ⟨hb3, h3⟩
        rcases h3 with ⟨h3, _⟩ | ⟨_, rfl⟩
        · exact absurd CZ.out h3
        rw [← HC.out]
        have B3 := Lib.hid (bthen (B2.out.trans (B.out.mono B2.out.size)) hb3)
        clear hb3
        have hle : (k : Int) ≤ (cost : Int) + (ln : Int) := by omega
        go_wp2_with fail
        refine (lives12 w3).mono ?_
        rintro e4 w4 ⟨rfl, hb4⟩
        have B4 := Lib.hid (bthen B3.out hb4)
        clear hb4
        go_wp2_with fail
        go_ret
        exact ⟨rfl, B4.out⟩
end Go.Proofs.Ythglgempbdaikaa
