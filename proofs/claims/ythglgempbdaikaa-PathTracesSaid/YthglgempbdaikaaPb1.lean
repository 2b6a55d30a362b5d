/- Contract of path.Segs. -/
import Derived.Test.YthglgempbdaikaaPb0
namespace Go.Proofs.Ythglgempbdaikaa
open Go.RowKit

theorem wpList_appg {P : Program} {ops : Array Oper} {rest : List Oper} {o : Oper} {a : Act} {Q : Exit → Act → World → Prop} {w0 : World} (hgd : o.guard = none) (s x : Operand) (t : TypeId)
    (ho : o.op = .call { callee := .builtin .append, args := #[s, x], argTypes := #[t, t] })
    (base : Nat) (e : TypeId) (i : TypeInfo) (z : Value) (size bytes : Nat) (cs : List Value) (ht : P.underlying t = some (.slice e)) (hi : P.info? e = some i) (hz : i.zero = some z)
    (hsize : i.size = size) (hby : i.bytes = bytes) (hcs : cs.length = size) (hzs : z.cells.size = size) (hsz : 0 < size)
    (v : Value) (n : Nat) (xs : List Value) (hs : a.eval s = v) (hown : w0.ownsRow base e size v n xs)
    (hx : a.eval x = .slice (some ⟨w0.heap.size, 0, none⟩) 1 1) (h1 : ∀ u ∈ cs, u.oneCell' = true)
    (h63 : n + 1 ≤ maxLen) (hbytes : (n + 1) * bytes ≤ 140737488355328) (hbase : base ≤ w0.heap.size)
    (h : ∀ g cap w', w'.ownsRow base e size (.slice (some ⟨g, 0, none⟩) (n + 1) cap) (n + 1) (xs ++ cs) → Below base w0 w' → w0.grownBy w' v.ownBlock → (v.ownBlock = some g ∨ w0.heap.size ≤ g) → wpList P ops Q rest (a.put o.dst (.slice (some ⟨g, 0, none⟩) (n + 1) cap)) w') :
    wpList P ops Q (o :: rest) a (w0.alloc (.cells cs.toArray e)) :=
  wpList_append_lies (w := w0.alloc (.cells cs.toArray e)) hgd s x t ho base e i z size bytes ht hi hz hsize hby hzs hsz v n xs hs (hown.alloc _) ⟨w0.heap.size, 0, none⟩ 1 1 cs hx (by simp [hcs]) (news_at w0 cs e) h1 (by omega) h63 hbytes (by simp; omega) (w0.heap.size + 1) (by simp)
    fun g cap w' h2 h3 h4 _ => by
      have hb := ((Below.refl base w0).alloc hbase (.cells cs.toArray e)).grown h3 (by simp; omega) (fun k hk => (hown.lt k hk).1)
      have hg : w0.grownBy w' v.ownBlock := ⟨h3.os, h3.tape, h3.output, Nat.le_trans (by simp) h3.size, fun k hk hne => (h3.block k (by simp; omega) hne).trans (Below.heap_alloc w0 _ k hk)⟩
      exact h g cap w' h2 hb hg (h4.imp id (fun e => by omega))
set_option maxRecDepth 100000 in
set_option maxHeartbeats 6400000 in
theorem segs_any (sv : Value) (L : List Ln) (w : World) (h : Lns w sv L) (hM : sumLen L L.length ≤ 1000000000) : Calls Try.prog 8 #[sv] w (SegsPost (segsTo L L.length) w) := by
  obtain ⟨i0, hi, hz0, hz1, hz2⟩ := info_parts Try.info44
  obtain ⟨a, cap, rfl, hn, hc⟩ := h
  have C := Lib.hid hc
  have M := Lib.hid hM
  obtain ⟨m, hm⟩ : ∃ m, m = L.length := ⟨_, rfl⟩
  rw [← hm] at hn C M ⊢
  clear hc hM hm
  go_enter Try.func8, Try.ntmps8
  go_wp2_with fail
  go_loopw [3, 11] (fun v i wr => ∃ k : Nat, k ≤ m ∧ i = .int .i64 k ∧ wr.ownsRow w.heap.size 44 4 v (segsTo L k).length (rowS (segsTo L k)) ∧ Below w.heap.size w wr) (fun _ i _ => m - (intOf i).toNat)
  case atStart => exact ⟨0, by omega, rfl, World.ownsRow_nil _ _ _ _, Below.refl _ _⟩
  case round =>
    obtain ⟨i, hik, rfl, hown, hb⟩ := hrel
    have OW := Lib.hid hown
    have B := Lib.hid hb
    clear hown hb
    by_cases hlt : i < m
    · obtain ⟨g, off, rfl, hp⟩ := C.out (by omega)
      obtain ⟨p, n, c, c0, c1, a2, cap2, hv, hn2, hpts⟩ := hp i hlt
      have SL := Lib.hid (Nat.le_trans (sumLen_at L hlt) M.out)
      have SN := Lib.hid (segsTo_len L i)
      have HS : Hid (segsTo L (i + 1) = segsTo L i ++ segTo (L.getD i ([], false)).1 (L.getD i ([], false)).1.length) := Lib.hid rfl
      obtain ⟨l, hl⟩ : ∃ l, l = (L.getD i ([], false)).1 := ⟨_, rfl⟩
      rw [← hl] at hv hn2 hpts SL HS
      simp only [Value.slice.injEq] at hv
      obtain ⟨rfl, rfl, rfl⟩ := hv
      obtain ⟨bb, hbb⟩ : ∃ b, b = (L.getD i ([], false)).2 := ⟨_, rfl⟩
      rw [← hbb] at c1
      obtain ⟨S, hS⟩ : ∃ S, S = segsTo L i := ⟨_, rfl⟩
      rw [← hS] at OW SN HS
      obtain ⟨sl, hsl⟩ : ∃ s, s = sumLen L i := ⟨_, rfl⟩
      rw [← hsl] at SL SN
      have d0 := cell_later B.out c0
      have d1 := cell_later B.out c1
      have PT := Lib.hid hpts
      obtain ⟨n, hnl⟩ : ∃ n, n = l.length := ⟨_, rfl⟩
      rw [← hnl] at d0 hn2 PT SL HS
      have NL := Lib.hid hnl
      clear hl hbb hS hsl hp c0 c1 hpts hnl
      have hk0 : (0 : Int) ≤ (i : Int) := by omega
      have hk3 : (i : Int) < (m : Int) := by omega
      obtain ⟨w1, hw1⟩ : ∃ w1, w1 = wr.alloc (.cells #[.slice p n c, .bool bb] 56) := ⟨_, rfl⟩
      obtain ⟨A, hA⟩ : ∃ A, A = wr.heap.size := ⟨_, rfl⟩
      have X1 : BxAt w1 A [.slice p n c, .bool bb] := by rw [hw1, hA]; exact BxAt.new wr _ _
      have b1 : Below wr.heap.size wr w1 := by rw [hw1]; exact below_alloc _ _
      have XX := Lib.hid X1
      have B1 := Lib.hid (B.out.trans (b1.mono B.out.size))
      have OW1 := Lib.hid (own_later OW.out b1)
      have x0 := X1.2.2 0 _ rfl
      have WA := Lib.hid (And.intro hw1 hA)
      clear hw1 hA X1 b1
      go_wp2_with fail
      rw [← WA.out.1, ← WA.out.2]
      clear d0 d1 x0
      go_loopw [3, 18] (fun v k wz => ∃ q : Nat, q ≤ n ∧ k = .int .i64 q ∧ wz.ownsRow w.heap.size 44 4 v (S ++ segTo l q).length (rowS (S ++ segTo l q)) ∧ Below w.heap.size w wz ∧ BxAt wz A [.slice p n c, .bool bb] ∧ ∀ z, v.ownBlock = some z → z ≠ A) (fun _ k _ => n - (intOf k).toNat)
      case atStart => exact ⟨0, by omega, rfl, by simpa [segTo] using OW1.out, B1.out, XX.out, fun z hz => by have := (OW.out.lt z hz).2; have := WA.out.2; omega⟩
      case round =>
        obtain ⟨q, hq, rfl, how, hbz, hxz, hna⟩ := hrel
        have XZ := Lib.hid hxz
        have NA := Lib.hid hna
        have OZ := Lib.hid how
        have BZ := Lib.hid hbz
        clear how hbz hxz hna
        by_cases hlq : q < n
        · obtain ⟨g2, off2, rfl, hpt⟩ := PT.out (by omega)
          obtain ⟨r, hr⟩ : ∃ r, r = (q + 1) % n := ⟨_, rfl⟩
          have hrn : r < n := by rw [hr]; exact Nat.mod_lt _ (by omega)
          have r2 : ((q : Int) + 1).tmod (n : Int) = (r : Int) := by
            rw [Int.tmod_eq_emod_of_nonneg (by omega), hr]
            simp
          have r1 : IntKind.i64.wrap ((q : Int) + 1) = (q : Int) + 1 := IntWalk.i64_in _ (by omega)
          have r3 : IntKind.i64.wrap (r : Int) = (r : Int) := IntWalk.i64_in _ (by omega)
          have hn0 : ¬ (n : Int) = 0 := by omega
          have hn1 : ((n : Int) == 0) = false := by simp; omega
          have hn9 : ¬ n = 0 := by omega
          have hn10 : (n == 0) = false := by simp; omega
          have r4 : IntKind.i64.wrap (((q : Int) + 1).tmod (n : Int)) = (r : Int) := by rw [r2]; exact IntWalk.i64_in _ (by omega)
          have hpz := hpt.later BZ.out
          have c0 := (hpz q hlq).1
          have c1 := (hpz q hlq).2
          have c2 := (hpz r hrn).1
          have c3 := (hpz r hrn).2
          dsimp only at c0 c1 c2 c3
          have HK : Hid (segTo l (q + 1) = segTo l q ++ segK l q) := Lib.hid rfl
          have SK : Hid (segK l q = if l.getD r (0, 0) = l.getD q (0, 0) then [] else [(l.getD q (0, 0), l.getD r (0, 0))]) := Lib.hid (by unfold segK; rw [← NL.out, ← hr])
          obtain ⟨px, hpx⟩ : ∃ x, x = (l.getD q (0, 0)).1 := ⟨_, rfl⟩
          obtain ⟨py, hpy⟩ : ∃ x, x = (l.getD q (0, 0)).2 := ⟨_, rfl⟩
          obtain ⟨qx, hqx⟩ : ∃ x, x = (l.getD r (0, 0)).1 := ⟨_, rfl⟩
          obtain ⟨qy, hqy⟩ : ∃ x, x = (l.getD r (0, 0)).2 := ⟨_, rfl⟩
          rw [show l.getD q (0, 0) = (px, py) from by rw [hpx, hpy], show l.getD r (0, 0) = (qx, qy) from by rw [hqx, hqy]] at SK
          rw [← hpx] at c0
          rw [← hpy] at c1
          rw [← hqx] at c2
          rw [← hqy] at c3
          have hq0 : (0 : Int) ≤ (q : Int) := by omega
          have hq3 : (q : Int) < (n : Int) := by omega
          have hr0 : (0 : Int) ≤ (r : Int) := by omega
          have hr4 : (r : Int) < (n : Int) := by omega
          have SQ := Lib.hid (segTo_len l q)
          clear hpx hpy hqx hqy hpz hpt hr
          obtain ⟨w3, hw3⟩ : ∃ w3, w3 = wr.alloc (.cells #[.int .i64 px, .int .i64 py] 42) := ⟨_, rfl⟩
          obtain ⟨P, hP⟩ : ∃ P, P = wr.heap.size := ⟨_, rfl⟩
          have X3 : BxAt w3 P [.int .i64 px, .int .i64 py] := by rw [hw3, hP]; exact BxAt.new wr _ _
          have b3 : Below wr.heap.size wr w3 := by rw [hw3]; exact below_alloc _ _
          have X3H := Lib.hid X3
          have y0 := X3.2.2 0 _ rfl
          have y1 := X3.2.2 1 _ rfl
          have zP := X3.1
          have BB3 := Lib.hid b3
          have OW3 := Lib.hid (own_later OZ.out b3)
          have e2 := cell_later b3 c2
          have e3 := cell_later b3 c3
          have XA := Lib.hid (XZ.out.later b3)
          have hA0 := XA.out.2.2 0 _ rfl
          have WP := Lib.hid (And.intro hw3 hP)
          clear hw3 hP X3 b3
          go_wp2_with fail
          rw [← WP.out.1, ← WP.out.2]
          clear c0 c1 c2 c3
          have ne1 := World.new_ne w3 _ hA0
          have ne2 := World.new_ne w3 _ e2
          have ne3 := World.new_ne w3 _ e3
          go_region_held3 (fun w' => w'.cell? ⟨A, 0, none⟩ = some (.slice (some ⟨g2, off2, none⟩) n c) ∧ w'.cell? ⟨g2, off2 + r * 2, none⟩ = some (.int .i64 qx) ∧ w'.cell? ⟨g2, off2 + r * 2 + 1, none⟩ = some (.int .i64 qy))
            (go_keep)
            (fail)
          obtain ⟨w4, hw4⟩ : ∃ w4, w4 = (w3.alloc (.cells #[.int .i64 qx, .int .i64 qy] 42)).drew := ⟨_, rfl⟩
          rw [← hw4]
          obtain ⟨R, hR⟩ : ∃ R, R = w3.heap.size := ⟨_, rfl⟩
          rw [← hR]
          have X4 : BxAt w4 R [.int .i64 qx, .int .i64 qy] := by rw [hw4, hR]; exact (show BxAt (w3.alloc _) w3.heap.size _ from BxAt.new w3 _ _)
          have b4 : Below w3.heap.size w3 w4 := by rw [hw4]; exact (below_alloc w3 _).drew
          have x0 := X4.2.2 0 _ rfl
          have x1 := X4.2.2 1 _ rfl
          have v0 := cell_later b4 y0
          have v1 := cell_later b4 y1
          have BB4 := Lib.hid (BB3.out.trans (b4.mono BB3.out.size))
          have OW4 := Lib.hid (own_later OW3.out b4)
          clear hw4 hR X4 b4 y0 y1 e2 e3 hA0 ne1 ne2 ne3
          have hcase : ((qx == px) = true ∧ (qy == py) = true ∧ Hid (segTo l (q + 1) = segTo l q)) ∨ ((qx == px) = false ∧ Hid (segTo l (q + 1) = segTo l q ++ [((px, py), (qx, qy))])) ∨ ((qx == px) = true ∧ (qy == py) = false ∧ Hid (segTo l (q + 1) = segTo l q ++ [((px, py), (qx, qy))])) := by
            cases k1 : (qx == px)
            · refine Or.inr (Or.inl ⟨rfl, Lib.hid ?_⟩)
              rw [HK.out, SK.out, if_neg]
              intro h
              simp only [Prod.mk.injEq] at h
              simp [h.1] at k1
            · cases k2 : (qy == py)
              · refine Or.inr (Or.inr ⟨rfl, rfl, Lib.hid ?_⟩)
                rw [HK.out, SK.out, if_neg]
                intro h
                simp only [Prod.mk.injEq] at h
                simp [h.2] at k2
              · refine Or.inl ⟨rfl, rfl, Lib.hid ?_⟩
                rw [beq_iff_eq] at k1 k2
                rw [HK.out, SK.out, if_pos (by rw [k1, k2])]
                simp
          clear HK SK r1 r2 r3 r4 hn0 hn1 hn9 hn10
          have BG := Lib.hid (BZ.out.trans (BB4.out.mono BZ.out.size))
          have X4A := Lib.hid (XZ.out.later BB4.out)
          have HL : Hid ((S ++ segTo l q).length ≤ 1000000000) := Lib.hid (by have := SL.out; have := SN.out; have := SQ.out; rw [List.length_append]; omega)
          rcases hcase with ⟨k1, k2, HE⟩ | ⟨k1, HE⟩ | ⟨k1, k2, HE⟩
          · go_wp2_with fail
            refine ⟨⟨q + 1, by omega, by go_num, by rw [HE.out]; exact OW4.out, BG.out, X4A.out, NA.out⟩, by (first | (simp [intOf]; done) | (simp [intOf]; omega) | (simp only [intOf]; omega))⟩
          all_goals
            obtain ⟨Z, hZ⟩ : ∃ Z, Z = S ++ segTo l q := ⟨_, rfl⟩
            rw [← hZ] at OW4 HL
            have HZ := Lib.hid hZ
            clear hZ
            go_wp2_with (at_builtin; go_loud (refine wpList_appg (w0 := w4) rfl (.tmp 36) (.tmp 40) 24 rfl w.heap.size 44 i0 (.agg #[.int .i64 0, .int .i64 0, .int .i64 0, .int .i64 0]) 4 32 [.int .i64 px, .int .i64 py, .int .i64 qx, .int .i64 qy] Try.underlying24 hi hz0 hz1 hz2 rfl rfl (by decide) _ _ _ rfl OW4.out rfl (by simp [Value.oneCell']) ?c1 ?c2 BG.out.size ?_))
            case c1 => have := HL.out; unfold maxLen; omega
            case c2 => have := HL.out; omega
            intro g' cap' w5 own5 hb5 gr5 gl5
            have O5 := Lib.hid (show w5.ownsRow w.heap.size 44 4 (.slice (some ⟨g', 0, none⟩) (Z.length + 1) cap') (S ++ segTo l (q + 1)).length (rowS (S ++ segTo l (q + 1))) by
              have e : S ++ segTo l (q + 1) = Z ++ [((px, py), (qx, qy))] := by rw [HE.out, HZ.out, List.append_assoc]
              have e2 : (Z ++ [((px, py), (qx, qy))]).length = Z.length + 1 := by simp
              rw [e, ← rowS_snoc, e2]
              exact own5)
            have B5 := Lib.hid (BG.out.trans hb5)
            have X5 := Lib.hid (X4A.out.grown gr5 (fun h => NA.out A h rfl))
            have N5 : Hid (∀ z, (Value.slice (some ⟨g', 0, none⟩) (Z.length + 1) cap').ownBlock = some z → z ≠ A) := Lib.hid (fun z hz => by
              obtain rfl : g' = z := by simpa [Value.ownBlock] using hz
              rcases gl5 with h | h
              · exact NA.out _ h
              · have := X4A.out.1; omega)
            clear own5 hb5 gr5 gl5
            go_wp2_with fail
            refine ⟨⟨q + 1, by omega, by go_num, O5.out, B5.out, X5.out, N5.out⟩, by (first | (simp [intOf]; done) | (simp [intOf]; omega) | (simp only [intOf]; omega))⟩
        · obtain rfl : q = n := by omega
          have O7 := Lib.hid (show wr.ownsRow w.heap.size 44 4 u3 (segsTo L (i + 1)).length (rowS (segsTo L (i + 1))) by rw [HS.out]; exact OZ.out)
          have B7 := Lib.hid BZ.out
          go_wp2_with fail
          refine ⟨⟨i + 1, by omega, by go_num, O7.out, B7.out⟩, by (first | (simp [intOf]; done) | (simp [intOf]; omega) | (simp only [intOf]; omega))⟩
    · obtain rfl : i = m := by omega
      go_wp2_with fail
      go_ret
      exact ⟨B.out, _, rfl, Sgs.of_owns OW.out⟩
end Go.Proofs.Ythglgempbdaikaa
