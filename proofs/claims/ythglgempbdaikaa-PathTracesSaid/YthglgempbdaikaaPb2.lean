/- Contracts of frisketref12: Segs, SameSegs. -/
import Derived.Test.YthglgempbdaikaaPb1
namespace Go.Proofs.Ythglgempbdaikaa
open Go.RowKit

set_option maxRecDepth 100000 in
set_option maxHeartbeats 6400000 in
theorem rsegs_any (sv : Value) (L : List Ln) (w : World) (h : Lns w sv L) (hM : sumLen L L.length ≤ 1000000000) : Calls Try.prog 9 #[sv] w (SegsPost (segsTo L L.length) w) := by
  obtain ⟨i0, hi, hz0, hz1, hz2⟩ := info_parts Try.info44
  obtain ⟨a, cap, rfl, hn, hc⟩ := h
  have C := Lib.hid hc
  have M := Lib.hid hM
  obtain ⟨m, hm⟩ : ∃ m, m = L.length := ⟨_, rfl⟩
  rw [← hm] at hn C M ⊢
  clear hc hM hm
  go_enter Try.func9, Try.ntmps9
  go_wp2_with fail
  go_loopw [3, 4] (fun v i wr => ∃ k : Nat, k ≤ m ∧ i = .int .i64 k ∧ wr.ownsRow w.heap.size 44 4 v (segsTo L k).length (rowS (segsTo L k)) ∧ Below w.heap.size w wr) (fun _ i _ => m - (intOf i).toNat)
  case atStart => exact ⟨0, by omega, rfl, World.ownsRow_nil _ _ _ _, Below.refl _ _⟩
  case round =>
    obtain ⟨i, hik, rfl, hown, hb⟩ := hrel
    have OW := Lib.hid hown
    have B := Lib.hid hb
    clear hown hb
    by_cases hlt : i < m
    · obtain ⟨g, off, rfl, hp⟩ := C.out (by omega)
      obtain ⟨p, n, c, c0, c1, a2, cap2, hv, hn2, hpts⟩ := hp i hlt
      have SL := Lib.hid (Nat.le_trans (sumLen_at L hlt) M.out)
      have SN := Lib.hid (segsTo_len L i)
      have HS : Hid (segsTo L (i + 1) = segsTo L i ++ segTo (L.getD i ([], false)).1 (L.getD i ([], false)).1.length) := Lib.hid rfl
      obtain ⟨l, hl⟩ : ∃ l, l = (L.getD i ([], false)).1 := ⟨_, rfl⟩
      rw [← hl] at hv hn2 hpts SL HS
      simp only [Value.slice.injEq] at hv
      obtain ⟨rfl, rfl, rfl⟩ := hv
      obtain ⟨S, hS⟩ : ∃ S, S = segsTo L i := ⟨_, rfl⟩
      rw [← hS] at OW SN HS
      obtain ⟨sl, hsl⟩ : ∃ s, s = sumLen L i := ⟨_, rfl⟩
      rw [← hsl] at SL SN
      have d0 := cell_later B.out c0
      have CL := Lib.hid c0
      have PT := Lib.hid hpts
      obtain ⟨n, hnl⟩ : ∃ n, n = l.length := ⟨_, rfl⟩
      rw [← hnl] at d0 hn2 PT SL HS CL
      have NL := Lib.hid hnl
      clear hl hS hsl hp c0 c1 hpts hnl
      have hk0 : (0 : Int) ≤ (i : Int) := by omega
      have hk3 : (i : Int) < (m : Int) := by omega
      go_wp2_with fail
      clear d0
      go_loopw [3, 6] (fun v k wz => ∃ q : Nat, q ≤ n ∧ k = .int .i64 q ∧ wz.ownsRow w.heap.size 44 4 v (S ++ segTo l q).length (rowS (S ++ segTo l q)) ∧ Below w.heap.size w wz) (fun _ k _ => n - (intOf k).toNat)
      case atStart => exact ⟨0, by omega, rfl, by simpa [segTo] using OW.out, B.out⟩
      case round =>
        obtain ⟨q, hq, rfl, how, hbz⟩ := hrel
        have OZ := Lib.hid how
        have BZ := Lib.hid hbz
        clear how hbz
        by_cases hlq : q < n
        · obtain ⟨g2, off2, rfl, hpt⟩ := PT.out (by omega)
          obtain ⟨r, hr⟩ : ∃ r, r = (q + 1) % n := ⟨_, rfl⟩
          have hrr : (q + 1 < n ∧ r = q + 1) ∨ (q + 1 = n ∧ r = 0) := by
            by_cases h : q + 1 < n
            · exact Or.inl ⟨h, by rw [hr, Nat.mod_eq_of_lt h]⟩
            · have : q + 1 = n := by omega
              exact Or.inr ⟨this, by rw [hr, this, Nat.mod_self]⟩
          have hrn : r < n := by rw [hr]; exact Nat.mod_lt _ (by omega)
          have hpz := hpt.later BZ.out
          have d0 := cell_later BZ.out CL.out
          have c0 := (hpz q hlq).1
          have c1 := (hpz q hlq).2
          have c2 := (hpz r hrn).1
          have c3 := (hpz r hrn).2
          have c4 := (hpz 0 (by omega)).1
          have c5 := (hpz 0 (by omega)).2
          dsimp only at c0 c1 c2 c3 c4 c5
          simp only [Nat.zero_mul, Nat.add_zero] at c4 c5
          have HK : Hid (segTo l (q + 1) = segTo l q ++ segK l q) := Lib.hid rfl
          have SK : Hid (segK l q = if l.getD r (0, 0) = l.getD q (0, 0) then [] else [(l.getD q (0, 0), l.getD r (0, 0))]) := Lib.hid (by unfold segK; rw [← NL.out, ← hr])
          have SQ := Lib.hid (segTo_len l q)
          have hnext : Hid (r = 0 → (l.getD r (0, 0)).1 = (l.getD 0 (0, 0)).1 ∧ (l.getD r (0, 0)).2 = (l.getD 0 (0, 0)).2) := Lib.hid (fun h => by rw [h]; exact ⟨rfl, rfl⟩)
          obtain ⟨px, hpx⟩ : ∃ x, x = (l.getD q (0, 0)).1 := ⟨_, rfl⟩
          obtain ⟨py, hpy⟩ : ∃ x, x = (l.getD q (0, 0)).2 := ⟨_, rfl⟩
          obtain ⟨qx, hqx⟩ : ∃ x, x = (l.getD r (0, 0)).1 := ⟨_, rfl⟩
          obtain ⟨qy, hqy⟩ : ∃ x, x = (l.getD r (0, 0)).2 := ⟨_, rfl⟩
          obtain ⟨zx, hzx⟩ : ∃ x, x = (l.getD 0 (0, 0)).1 := ⟨_, rfl⟩
          obtain ⟨zy, hzy⟩ : ∃ x, x = (l.getD 0 (0, 0)).2 := ⟨_, rfl⟩
          rw [show l.getD q (0, 0) = (px, py) from by rw [hpx, hpy], show l.getD r (0, 0) = (qx, qy) from by rw [hqx, hqy]] at SK
          rw [← hqx, ← hqy, ← hzx, ← hzy] at hnext
          rw [← hpx] at c0
          rw [← hpy] at c1
          rw [← hqx] at c2
          rw [← hqy] at c3
          rw [← hzx] at c4
          rw [← hzy] at c5
          have hq0 : (0 : Int) ≤ (q : Int) := by omega
          have hq3 : (q : Int) < (n : Int) := by omega
          clear hpx hpy hqx hqy hzx hzy hpz hpt hr
          have hcase : ((px == qx) = true ∧ (py == qy) = true ∧ Hid (segTo l (q + 1) = segTo l q)) ∨ ((px == qx) = false ∧ Hid (segTo l (q + 1) = segTo l q ++ [((px, py), (qx, qy))])) ∨ ((px == qx) = true ∧ (py == qy) = false ∧ Hid (segTo l (q + 1) = segTo l q ++ [((px, py), (qx, qy))])) := by
            cases k1 : (px == qx)
            · refine Or.inr (Or.inl ⟨rfl, Lib.hid ?_⟩)
              rw [HK.out, SK.out, if_neg]
              intro h
              simp only [Prod.mk.injEq] at h
              simp [h.1] at k1
            · cases k2 : (py == qy)
              · refine Or.inr (Or.inr ⟨rfl, rfl, Lib.hid ?_⟩)
                rw [HK.out, SK.out, if_neg]
                intro h
                simp only [Prod.mk.injEq] at h
                simp [h.2] at k2
              · refine Or.inl ⟨rfl, rfl, Lib.hid ?_⟩
                rw [beq_iff_eq] at k1 k2
                rw [HK.out, SK.out, if_pos (by rw [k1, k2])]
                simp
          clear HK SK
          have HL : Hid ((S ++ segTo l q).length ≤ 1000000000) := Lib.hid (by have := SL.out; have := SN.out; have := SQ.out; rw [List.length_append]; omega)
          obtain ⟨Z, hZ⟩ : ∃ Z, Z = S ++ segTo l q := ⟨_, rfl⟩
          rw [← hZ] at OZ HL
          have HZ := Lib.hid hZ
          clear hZ
          have OW4 : Hid (((wr.alloc (.cells #[.int .i64 px, .int .i64 py] 42)).alloc (.cells #[.int .i64 qx, .int .i64 qy] 42)).ownsRow w.heap.size 44 4 u3 Z.length (rowS Z)) := Lib.hid (own_later OZ.out (bel2 _ _ _))
          have BG : Hid (Below w.heap.size w ((wr.alloc (.cells #[.int .i64 px, .int .i64 py] 42)).alloc (.cells #[.int .i64 qx, .int .i64 qy] 42))) := Lib.hid (BZ.out.trans ((bel2 _ _ _).mono BZ.out.size))
          have zg : g < wr.heap.size := World.block_lt_of_cell? wr _ d0
          have zg2 : g2 < wr.heap.size := World.block_lt_of_cell? wr _ c0
          have zgg : g < wr.heap.size + 1 := by omega
          have zgg2 : g2 < wr.heap.size + 1 := by omega
          have n1 : g ≠ wr.heap.size := by omega
          have n2 : g2 ≠ wr.heap.size := by omega
          have n3 : g ≠ wr.heap.size + 1 := by omega
          have n4 : g2 ≠ wr.heap.size + 1 := by omega
          rcases hrr with ⟨hr1, rfl⟩ | ⟨hr1, rfl⟩
          · have hr3 : (q : Int) + 1 < (n : Int) := by omega
            have hr4 : (0 : Int) ≤ (q : Int) + 1 := by omega
            clear hnext
            rcases hcase with ⟨k1, k2, HE⟩ | ⟨k1, HE⟩ | ⟨k1, k2, HE⟩
            · go_wp2_with fail
              refine ⟨⟨q + 1, by omega, by go_num, by rw [HE.out, ← HZ.out]; exact OW4.out, BG.out⟩, by (first | (simp [intOf]; done) | (simp [intOf]; omega) | (simp only [intOf]; omega))⟩
            all_goals
              go_wp2_with (at_builtin; go_loud (refine wpList_app (w0 := ((wr.alloc (.cells #[.int .i64 px, .int .i64 py] 42)).alloc (.cells #[.int .i64 qx, .int .i64 qy] 42))) rfl (.tmp 57) (.tmp 61) 24 rfl w.heap.size 44 i0 (.agg #[.int .i64 0, .int .i64 0, .int .i64 0, .int .i64 0]) 4 32 [.int .i64 px, .int .i64 py, .int .i64 qx, .int .i64 qy] Try.underlying24 hi hz0 hz1 hz2 rfl rfl (by decide) _ _ _ rfl OW4.out (by first | rfl | (simp; rfl) | simp) (by simp [Value.oneCell']) ?c1 ?c2 BG.out.size ?_))
              case c1 => have := HL.out; unfold maxLen; omega
              case c2 => have := HL.out; omega
              intro g' cap' w5 own5 hb5
              have O5 := Lib.hid (show w5.ownsRow w.heap.size 44 4 (.slice (some ⟨g', 0, none⟩) (Z.length + 1) cap') (S ++ segTo l (q + 1)).length (rowS (S ++ segTo l (q + 1))) by
                have e : S ++ segTo l (q + 1) = Z ++ [((px, py), (qx, qy))] := by rw [HE.out, HZ.out, List.append_assoc]
                have e2 : (Z ++ [((px, py), (qx, qy))]).length = Z.length + 1 := by simp
                rw [e, ← rowS_snoc, e2]
                exact own5)
              have B5 := Lib.hid (BG.out.trans hb5)
              clear own5 hb5
              go_wp2_with fail
              refine ⟨⟨q + 1, by omega, by go_num, O5.out, B5.out⟩, by (first | (simp [intOf]; done) | (simp [intOf]; omega) | (simp only [intOf]; omega))⟩
          · obtain ⟨rfl, rfl⟩ := hnext.out rfl
            have hr3 : ¬ (q : Int) + 1 < (n : Int) := by omega
            clear c2 c3 hnext
            rcases hcase with ⟨k1, k2, HE⟩ | ⟨k1, HE⟩ | ⟨k1, k2, HE⟩
            · go_wp2_with fail
              refine ⟨⟨q + 1, by omega, by go_num, by rw [HE.out, ← HZ.out]; exact OW4.out, BG.out⟩, by (first | (simp [intOf]; done) | (simp [intOf]; omega) | (simp only [intOf]; omega))⟩
            all_goals
              go_wp2_with (at_builtin; go_loud (refine wpList_app (w0 := ((wr.alloc (.cells #[.int .i64 px, .int .i64 py] 42)).alloc (.cells #[.int .i64 qx, .int .i64 qy] 42))) rfl (.tmp 57) (.tmp 61) 24 rfl w.heap.size 44 i0 (.agg #[.int .i64 0, .int .i64 0, .int .i64 0, .int .i64 0]) 4 32 [.int .i64 px, .int .i64 py, .int .i64 qx, .int .i64 qy] Try.underlying24 hi hz0 hz1 hz2 rfl rfl (by decide) _ _ _ rfl OW4.out (by first | rfl | (simp; rfl) | simp) (by simp [Value.oneCell']) ?c1 ?c2 BG.out.size ?_))
              case c1 => have := HL.out; unfold maxLen; omega
              case c2 => have := HL.out; omega
              intro g' cap' w5 own5 hb5
              have O5 := Lib.hid (show w5.ownsRow w.heap.size 44 4 (.slice (some ⟨g', 0, none⟩) (Z.length + 1) cap') (S ++ segTo l (q + 1)).length (rowS (S ++ segTo l (q + 1))) by
                have e : S ++ segTo l (q + 1) = Z ++ [((px, py), (qx, qy))] := by rw [HE.out, HZ.out, List.append_assoc]
                have e2 : (Z ++ [((px, py), (qx, qy))]).length = Z.length + 1 := by simp
                rw [e, ← rowS_snoc, e2]
                exact own5)
              have B5 := Lib.hid (BG.out.trans hb5)
              clear own5 hb5
              go_wp2_with fail
              refine ⟨⟨q + 1, by omega, by go_num, O5.out, B5.out⟩, by (first | (simp [intOf]; done) | (simp [intOf]; omega) | (simp only [intOf]; omega))⟩
        · obtain rfl : q = n := by omega
          have O7 := Lib.hid (show wr.ownsRow w.heap.size 44 4 u3 (segsTo L (i + 1)).length (rowS (segsTo L (i + 1))) by rw [HS.out]; exact OZ.out)
          go_wp2_with fail
          refine ⟨⟨i + 1, by omega, by go_num, O7.out, BZ.out⟩, by (first | (simp [intOf]; done) | (simp [intOf]; omega) | (simp only [intOf]; omega))⟩
    · obtain rfl : i = m := by omega
      go_wp2_with fail
      go_ret
      exact ⟨B.out, _, rfl, Sgs.of_owns OW.out⟩
end Go.Proofs.Ythglgempbdaikaa
