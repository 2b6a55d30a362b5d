/- Contract of New: an index of a scene's definitions. -/
import Derived.Test.YtkhdielfnphheaaNew0
import Derived.Deep.RegionLaw
import Derived.Deep.AppendLies
namespace Go.Proofs.Ytkhdielfnphheaa
open Go.RowKit

theorem Try.info66 : (Try.prog.info? 66).map (fun i => (i.zero, i.size, i.bytes)) = some (some (.agg #[.int .i64 0, .int .i64 0, .slice none 0 0]), 3, 40) := by kernel_rfl
theorem Try.info101 : (Try.prog.info? 101).map (fun i => (i.zero, i.size, i.bytes)) = some (some (.agg #[.int .i64 0, .int .i64 0, .int .i64 0, .slice none 0 0]), 4, 48) := by kernel_rfl
theorem Try.under27 : Try.prog.underlying 27 = some (.slice 66) := by kernel_rfl
theorem Try.under28 : Try.prog.underlying 28 = some (.slice 101) := by kernel_rfl
abbrev xzero : List Value := xcells (.slice none 0 0) (.slice none 0 0) (.slice none 0 0) (.slice none 0 0) 0 0 0 (.slice none 0 0) false (.slice none 0 0) false (.slice none 0 0) false 0
abbrev xnew (hd rm gl pc : Value) : List Value := xcells hd rm gl pc 0 0 0 (.slice none 0 0) false (.slice none 0 0) false (.slice none 0 0) false 0
def L2 (S : Sc) (A : Nat) (w0 : World) (ac : List Value) (hv rv gl : Value) (gv : Nat → Value) (k : Nat) (w : World) : Prop := ∃ v pv, NewI A w0 w ac (xnew hv rv gl v) ∧ PMade (A + 1 + 1) S.P w v k pv ∧ GMade (A + 1 + 1) S.G w gl S.ng gv ∧ w.ownsRow (A + 1 + 1) 94 1 hv S.nh (flat 1 S.H S.nh) ∧ w.ownsRow (A + 1 + 1) 58 15 rv S.nr (flat 15 (rmF S.R) S.nr)
def L1 (S : Sc) (A : Nat) (w0 : World) (ac : List Value) (hv rv : Value) (k : Nat) (w : World) : Prop := ∃ v gv, NewI A w0 w ac (xnew hv rv v (.slice none 0 0)) ∧ GMade (A + 1 + 1) S.G w v k gv ∧ w.ownsRow (A + 1 + 1) 94 1 hv S.nh (flat 1 S.H S.nh) ∧ w.ownsRow (A + 1 + 1) 58 15 rv S.nr (flat 15 (rmF S.R) S.nr)
set_option maxRecDepth 100000 in
set_option maxHeartbeats 6400000 in
theorem new_any (S : Sc) (s0 s1 s2 s3 s4 s5 s6 hd mt rm gl pc it : Value) (w : World) (hD : DataV S rm gl pc w) (hH : Row w hd S.nh 1 S.H) (ok : ScOk S) :
    Calls Try.prog 7 #[.agg #[s0, s1, s2, s3, s4, s5, s6, hd, mt, rm, gl, pc, it]] w (NewPost S w) := by
  obtain ⟨i0, hi, hz0, hz1, hz2⟩ := info_parts Try.info66
  obtain ⟨i1, hj, hy0, hy1, hy2⟩ := info_parts Try.info101
  obtain ⟨gp, gc, rfl⟩ : ∃ a c, gl = .slice a S.ng c := by obtain ⟨_, h, _⟩ := hD.2.1; exact h.slice
  obtain ⟨pp, pk, rfl⟩ : ∃ a c, pc = .slice a S.np c := by obtain ⟨_, h, _⟩ := hD.2.2; exact h.slice
  obtain ⟨w1, hw1⟩ : ∃ w1, w1 = (w.alloc (.cells #[s0, s1, s2, s3, s4, s5, s6, hd, mt, rm, .slice gp S.ng gc, .slice pp S.np pk, it] 31)).alloc (.cells xzero.toArray 92) := ⟨_, rfl⟩
  obtain ⟨A, hA⟩ : ∃ A, A = w.heap.size := ⟨_, rfl⟩
  have B1 : Hid (Below A w w1) := Lib.hid (by rw [hw1, hA]; exact bel2 _ _ _)
  have A1 : Hid (BxAt w1 A [s0, s1, s2, s3, s4, s5, s6, hd, mt, rm, .slice gp S.ng gc, .slice pp S.np pk, it]) := Lib.hid (by rw [hw1, hA]; exact (BxAt.new w _ _).later (below_alloc _ _))
  have X1 : Hid (BxAt w1 (A + 1) xzero) := Lib.hid (by rw [hw1, hA]; exact bx_b w _ _ _)
  have S1 : Hid (w1.heap.size = A + 1 + 1) := Lib.hid (by rw [hw1, hA]; simp)
  have D0 := Lib.hid hD
  have H1 := Lib.hid (hH.later (by rw [← hA]; exact B1.out))
  have OK := Lib.hid ok
  have HW1 := Lib.hid (And.intro hw1 hA)
  have C1 := Lib.hid (clone23_any hd S.nh S.H w1 H1.out ok.ch ok.bh)
  have a7 := A1.out.2.2 7 _ rfl
  clear hD hH ok hw1 hA
  go_enter Try.func7, Try.ntmps7
  go_wp2_with fail
  rw [← HW1.out.2, ← HW1.out.1]
  refine C1.out.mono ?_
  rintro e w2 ⟨hv, rfl, hb2, ho2⟩
  obtain ⟨hp, hc, rfl⟩ := own_slice ho2
  rw [S1.out] at hb2 ho2
  have N1 : Hid (NewI A w w1 [s0, s1, s2, s3, s4, s5, s6, hd, mt, rm, .slice gp S.ng gc, .slice pp S.np pk, it] xzero) := Lib.hid ⟨B1.out, A1.out, X1.out⟩
  have O2 := Lib.hid ho2
  have N2 := Lib.hid (N1.out.later (by rw [S1.out]; exact hb2))
  have N3 := Lib.hid (N2.out.put 7 (.slice hp S.nh hc) (by decide))
  have O3 := Lib.hid (ownsRow_setCell_below O2.out (a := ⟨A + 1, 7, none⟩) (show A + 1 < A + 1 + 1 by omega) (.slice hp S.nh hc))
  have e7 := N2.out.xb.2.2 7 _ rfl
  have f7 := N2.out.xb.2.1
  have z7 := N2.out.xb.1
  have a9 := N2.out.ab.2.2 9 _ rfl
  clear hb2 ho2 a7
  go_wp2_with fail
  obtain ⟨w3, hw3⟩ : ∃ w3, w3 = w2.setCell ⟨A + 1, 7, none⟩ (.slice hp S.nh hc) := ⟨_, rfl⟩
  rw [← hw3] at N3 O3 ⊢
  clear e7 f7 z7 a9 N1 O2 N2 hw3 C1
  have D3 := Lib.hid (D0.out.later (by rw [← HW1.out.2]; exact N3.out.bel))
  refine (clone24_any rm S.nr (rmF S.R) w3 D3.out.1 (fun j t _ _ => rmF_one _ _ _) OK.out.br).mono ?_
  rintro e w4 ⟨rv, rfl, hb4, ho4⟩
  obtain ⟨rp, rc, rfl⟩ := own_slice ho4
  have N4 := Lib.hid (N3.out.later hb4)
  have N5 := Lib.hid (N4.out.put 9 (.slice rp S.nr rc) (by simp))
  have O5 := Lib.hid (ownsRow_setCell_below (own_later O3.out hb4) (a := ⟨A + 1, 9, none⟩) (show A + 1 < A + 1 + 1 by omega) (.slice rp S.nr rc))
  have P5 := Lib.hid (ownsRow_setCell_below (own_low ho4 N3.out.size) (a := ⟨A + 1, 9, none⟩) (show A + 1 < A + 1 + 1 by omega) (.slice rp S.nr rc))
  have e9 := N4.out.xb.2.2 9 _ rfl
  have f9 := N4.out.xb.2.1
  have z9 := N4.out.xb.1
  have a10 := N4.out.ab.2.2 10 _ rfl
  have ngb : S.ng ≤ 4000000000000 := by have := OK.out.bg; omega
  clear hb4 ho4 D3 N3 O3
  go_wp2_with fail
  clear e9 f9 z9 a10
  go_loopw [27] (fun x wr => ∃ k : Nat, x = .int .i64 k ∧ k ≤ S.ng ∧ L1 S A w [s0, s1, s2, s3, s4, s5, s6, hd, mt, rm, .slice gp S.ng gc, .slice pp S.np pk, it] (.slice hp S.nh hc) (.slice rp S.nr rc) k wr) (fun x _ => S.ng - (intOf x).toNat)
  case atStart => exact ⟨0, rfl, by omega, .slice none 0 0, fun _ => .slice none 0 0, N5.out, ⟨World.ownsRow_nil _ _ _ _, fun j hj => by omega⟩, O5.out, P5.out⟩
  case round =>
    obtain ⟨k, rfl, hk, v, gv, hn, hg, ho, hr⟩ := hrel
    have N6 := Lib.hid hn
    have GM := Lib.hid hg
    have O6 := Lib.hid ho
    have P6 := Lib.hid hr
    clear hn hg ho hr N4 N5 O5 P5
    by_cases hlt : k < S.ng
    · have D6 := D0.out.later (by rw [← HW1.out.2]; exact N6.out.bel)
      obtain ⟨_, ⟨sv, hrow, hst⟩, _⟩ := D6
      obtain ⟨a, cap, he, hnn, hcell⟩ := hrow
      obtain ⟨g, off, rfl, hc3⟩ := hcell (by omega)
      obtain ⟨rfl, rfl⟩ : gp = some ⟨g, off, none⟩ ∧ gc = cap := by simpa using he
      have c0 : wr.cell? ⟨g, off + k * 3, none⟩ = some (.int .i64 (S.G k).code) := hc3 k 0 hlt (by omega)
      have c1 : wr.cell? ⟨g, off + k * 3 + 1, none⟩ = some (.int .i64 (S.G k).adv) := hc3 k 1 hlt (by omega)
      have c2 : wr.cell? ⟨g, off + k * 3 + 2, none⟩ = some (sv k) := hc3 k 2 hlt (by omega)
      have ST := Lib.hid (hst k hlt)
      obtain ⟨sp, sc, hs⟩ := ST.out.slice
      rw [hs] at c2 ST
      have kI : (k : Int) < (S.ng : Int) := by omega
      have k0 : (0 : Int) ≤ (k : Int) := by omega
      clear hs hst hc3 hcell hnn he
      go_wp2_with fail
      obtain ⟨wa, hwa⟩ : ∃ wa, wa = wr.alloc (.cells #[.int .i64 (S.G k).code, .int .i64 (S.G k).adv, .slice sp (S.G k).n sc] 66) := ⟨_, rfl⟩
      obtain ⟨G, hG⟩ : ∃ G, G = wr.heap.size := ⟨_, rfl⟩
      rw [← hwa, ← hG]
      have Ba : Hid (Below G wr wa) := Lib.hid (by rw [hwa, hG]; exact below_alloc _ _)
      have Ga : Hid (BxAt wa G [.int .i64 (S.G k).code, .int .i64 (S.G k).adv, .slice sp (S.G k).n sc]) := Lib.hid (by rw [hwa, hG]; exact BxAt.new wr _ _)
      have Sa : Hid (wa.heap.size = G + 1) := Lib.hid (by rw [hwa, hG]; simp)
      have HG := Lib.hid (And.intro hwa hG)
      have AG : A + 1 < G := by rw [hG]; exact N6.out.size
      clear hwa hG c0 c1 c2
      refine (clone25_any (.slice sp (S.G k).n sc) (S.G k).n (stF (S.G k).F) wa (ST.out.later (by rw [← HG.out.2]; exact Ba.out)) (fun _ _ _ _ => rfl) (OK.out.cg k hlt)).mono ?_
      rintro e w7 ⟨cv, rfl, hb7, ho7⟩
      obtain ⟨cp, cc, rfl⟩ := own_slice ho7
      have G7 := Lib.hid (Ga.out.later hb7)
      rw [Sa.out] at hb7 ho7
      have B7 := Lib.hid hb7
      have O7 := Lib.hid ho7
      have g2 := G7.out.2.2 2 _ rfl
      have gf := G7.out.2.1
      have gz := G7.out.1
      clear hb7 ho7
      go_wp2_with fail
      obtain ⟨w8, hw8⟩ : ∃ w8, w8 = w7.setCell ⟨G, 2, none⟩ (.slice cp (S.G k).n cc) := ⟨_, rfl⟩
      rw [← hw8]
      have B8 : Hid (Below wr.heap.size wr w8) := Lib.hid (by rw [hw8, ← HG.out.2]; exact (Ba.out.trans (B7.out.mono (by omega))).setCell (p := ⟨G, 2, none⟩) (Nat.le_refl G) _)
      have G8 : Hid (BxAt w8 G [.int .i64 (S.G k).code, .int .i64 (S.G k).adv, .slice cp (S.G k).n cc]) := Lib.hid (by rw [hw8]; exact G7.out.put 2 _ (by simp))
      have O8 : Hid (w8.ownsRow (A + 1 + 1) 99 7 (.slice cp (S.G k).n cc) (S.G k).n (flat 7 (stF (S.G k).F) (S.G k).n)) := Lib.hid (by rw [hw8]; exact own_low (ownsRow_setCell_below O7.out (a := ⟨G, 2, none⟩) (show G < G + 1 by omega) _) (by omega))
      have N8 := Lib.hid (N6.out.later B8.out)
      have M8 := Lib.hid (GM.out.later B8.out)
      have H8 := Lib.hid (own_later O6.out B8.out)
      have R8 := Lib.hid (own_later P6.out B8.out)
      have s8 := N8.out.size
      have e10 := N8.out.xb.2.2 10 _ rfl
      have f10 := N8.out.xb.2.1
      have z10 := N8.out.xb.1
      have g0 := G8.out.2.2 0 _ rfl
      have g1 := G8.out.2.2 1 _ rfl
      have g3 := G8.out.2.2 2 _ rfl
      have own2 := M8.out.own
      obtain ⟨vp, vc, rfl⟩ := own_slice own2
      have kb : (k + 1) * 40 ≤ 140737488355328 := by have := OK.out.bg; omega
      clear g2 gf gz hw8 Ba Ga Sa B7 O7 G7
      go_region_law (go_loud (refine step_append_lies _ rfl (.tmp 40) (.tmp 42) 27 rfl (A + 1 + 1) 66 i0 (.agg #[.int .i64 0, .int .i64 0, .slice none 0 0]) 3 40 Try.under27 hi hz0 hz1 hz2 rfl (by decide) _ k _ (by rfl) (World.ownsRow.alloc (w := w8.drew) own2.drew _) ⟨w8.heap.size, 0, none⟩ 1 1 [.int .i64 (S.G k).code, .int .i64 (S.G k).adv, .slice cp (S.G k).n cc] (by rfl) rfl (by exact news_at w8.drew _ 66) (by simp [Value.oneCell']) (by omega) (by unfold maxLen; omega) (by omega) (by simp; omega) (w8.heap.size + 1) (by simp) ?_); intro g' cap' w5 own5 gr5 hg5 lt5; have N9 := Lib.hid (((N8.out.later (Below.refl _ _).drew).later (below_alloc w8.drew _)).grown (World.ownsRow.alloc (w := w8.drew) own2.drew _) gr5); have T9 := Lib.hid ((Tr.of_below (B := A + 1 + 1) (e0 := 66) (Below.refl _ w8).drew).trans ((Tr.of_below (below_alloc w8.drew _)).trans (Tr.grown (World.ownsRow.alloc (w := w8.drew) own2.drew _) gr5))); have OW5 := Lib.hid own5; have m10 := N9.out.xb.2.2 10 _ rfl; have mf := N9.out.xb.2.1; have mz := N9.out.xb.1; clear own5 gr5 hg5)
      all_goals
        have M9 := Lib.hid (M8.out.next O8.out T9.out OW5.out)
        go_wp2_with fail
        refine ⟨⟨k + 1, by go_num, by omega, _, _, N9.out.put 10 _ (by simp), M9.out.tr (e0 := 0) (by decide) (by decide) (Tr.set _ _ (show A + 1 < A + 1 + 1 by omega)), ?_, ?_⟩, by (first | (simp [intOf]; done) | (simp [intOf]; omega) | (simp only [intOf]; omega))⟩
        · exact ownsRow_setCell_below (T9.out _ _ _ _ _ (by decide) H8.out) (a := ⟨A + 1, 10, none⟩) (show A + 1 < A + 1 + 1 by omega) _
        · exact ownsRow_setCell_below (T9.out _ _ _ _ _ (by decide) R8.out) (a := ⟨A + 1, 10, none⟩) (show A + 1 < A + 1 + 1 by omega) _
    · obtain rfl : k = S.ng := by omega
      have kI : ¬ (S.ng : Int) < (S.ng : Int) := by omega
      obtain ⟨vp, vc, rfl⟩ := own_slice GM.out.own
      have a11 := N6.out.ab.2.2 11 _ rfl
      have npb : S.np ≤ 4000000000000 := by have := OK.out.bp; omega
      go_wp2_with fail
      clear a11 kI
      as_aux_lemma =>
      go_loopw [51] (fun x wr => ∃ k : Nat, x = .int .i64 k ∧ k ≤ S.np ∧ L2 S A w [s0, s1, s2, s3, s4, s5, s6, hd, mt, rm, .slice gp S.ng gc, .slice pp S.np pk, it] (.slice hp S.nh hc) (.slice rp S.nr rc) (.slice vp S.ng vc) gv k wr) (fun x _ => S.np - (intOf x).toNat)
      case atStart => exact ⟨0, rfl, by omega, .slice none 0 0, fun _ => .slice none 0 0, N6.out, ⟨World.ownsRow_nil _ _ _ _, fun j hj => by omega⟩, GM.out, O6.out, P6.out⟩
      case round =>
        clear N6 GM O6 P6
        obtain ⟨k, rfl, hk, v, pv, hn, hp2, hg, ho, hr⟩ := hrel
        have N6 := Lib.hid hn
        have PM := Lib.hid hp2
        have GM := Lib.hid hg
        have O6 := Lib.hid ho
        have P6 := Lib.hid hr
        clear hn hp2 hg ho hr
        by_cases hlt : k < S.np
        · have D6 := D0.out.later (by rw [← HW1.out.2]; exact N6.out.bel)
          obtain ⟨_, _, sv, hrow, hst⟩ := D6
          obtain ⟨a, cap, he, hnn, hcell⟩ := hrow
          obtain ⟨g, off, rfl, hc3⟩ := hcell (by omega)
          obtain ⟨rfl, rfl⟩ : pp = some ⟨g, off, none⟩ ∧ pk = cap := by simpa using he
          have c0 : wr.cell? ⟨g, off + k * 4, none⟩ = some (.int .i64 (S.P k).id) := hc3 k 0 hlt (by omega)
          have c1 : wr.cell? ⟨g, off + k * 4 + 1, none⟩ = some (.int .i64 (S.P k).pw) := hc3 k 1 hlt (by omega)
          have c2 : wr.cell? ⟨g, off + k * 4 + 2, none⟩ = some (.int .i64 (S.P k).ph) := hc3 k 2 hlt (by omega)
          have c3 : wr.cell? ⟨g, off + k * 4 + 3, none⟩ = some (sv k) := hc3 k 3 hlt (by omega)
          have ST := Lib.hid (hst k hlt)
          obtain ⟨sp, sc, hs⟩ := ST.out.slice
          rw [hs] at c3 ST
          have kI : (k : Int) < (S.np : Int) := by omega
          have k0 : (0 : Int) ≤ (k : Int) := by omega
          clear hs hst hc3 hcell hnn he
          go_wp2_with fail
          obtain ⟨wa, hwa⟩ : ∃ wa, wa = wr.alloc (.cells #[.int .i64 (S.P k).id, .int .i64 (S.P k).pw, .int .i64 (S.P k).ph, .slice sp (S.P k).n sc] 101) := ⟨_, rfl⟩
          obtain ⟨G, hG⟩ : ∃ G, G = wr.heap.size := ⟨_, rfl⟩
          rw [← hwa, ← hG]
          have Ba : Hid (Below G wr wa) := Lib.hid (by rw [hwa, hG]; exact below_alloc _ _)
          have Ga : Hid (BxAt wa G [.int .i64 (S.P k).id, .int .i64 (S.P k).pw, .int .i64 (S.P k).ph, .slice sp (S.P k).n sc]) := Lib.hid (by rw [hwa, hG]; exact BxAt.new wr _ _)
          have Sa : Hid (wa.heap.size = G + 1) := Lib.hid (by rw [hwa, hG]; simp)
          have HG := Lib.hid (And.intro hwa hG)
          have AG : A + 1 < G := by rw [hG]; exact N6.out.size
          clear hwa hG c0 c1 c2 c3
          refine (clone26_any (.slice sp (S.P k).n sc) (S.P k).n (pxF (S.P k).px) wa (ST.out.later (by rw [← HG.out.2]; exact Ba.out)) (fun _ _ _ _ => rfl) (OK.out.cp k hlt)).mono ?_
          rintro e w7 ⟨cv, rfl, hb7, ho7⟩
          obtain ⟨cp, cc, rfl⟩ := own_slice ho7
          have G7 := Lib.hid (Ga.out.later hb7)
          rw [Sa.out] at hb7 ho7
          have B7 := Lib.hid hb7
          have O7 := Lib.hid ho7
          have g2 := G7.out.2.2 3 _ rfl
          have gf := G7.out.2.1
          have gz := G7.out.1
          clear hb7 ho7
          go_wp2_with fail
          obtain ⟨w8, hw8⟩ : ∃ w8, w8 = w7.setCell ⟨G, 3, none⟩ (.slice cp (S.P k).n cc) := ⟨_, rfl⟩
          rw [← hw8]
          have B8 : Hid (Below wr.heap.size wr w8) := Lib.hid (by rw [hw8, ← HG.out.2]; exact (Ba.out.trans (B7.out.mono (by omega))).setCell (p := ⟨G, 3, none⟩) (Nat.le_refl G) _)
          have G8 : Hid (BxAt w8 G [.int .i64 (S.P k).id, .int .i64 (S.P k).pw, .int .i64 (S.P k).ph, .slice cp (S.P k).n cc]) := Lib.hid (by rw [hw8]; exact G7.out.put 3 _ (by simp))
          have O8 : Hid (w8.ownsRow (A + 1 + 1) 23 4 (.slice cp (S.P k).n cc) (S.P k).n (flat 4 (pxF (S.P k).px) (S.P k).n)) := Lib.hid (by rw [hw8]; exact own_low (ownsRow_setCell_below O7.out (a := ⟨G, 3, none⟩) (show G < G + 1 by omega) _) (by omega))
          have N8 := Lib.hid (N6.out.later B8.out)
          have M8 := Lib.hid (PM.out.later B8.out)
          have GM8 := Lib.hid (GM.out.later B8.out)
          have H8 := Lib.hid (own_later O6.out B8.out)
          have R8 := Lib.hid (own_later P6.out B8.out)
          have s8 := N8.out.size
          have e10 := N8.out.xb.2.2 11 _ rfl
          have f10 := N8.out.xb.2.1
          have z10 := N8.out.xb.1
          have g0 := G8.out.2.2 0 _ rfl
          have g1 := G8.out.2.2 1 _ rfl
          have g3 := G8.out.2.2 2 _ rfl
          have g4 := G8.out.2.2 3 _ rfl
          have own2 := M8.out.own
          obtain ⟨vp, vc, rfl⟩ := own_slice own2
          have kb : (k + 1) * 48 ≤ 140737488355328 := by have := OK.out.bp; omega
          clear g2 gf gz hw8 Ba Ga Sa B7 O7 G7
          go_region_law (go_loud (refine step_append_lies _ rfl (.tmp 66) (.tmp 68) 28 rfl (A + 1 + 1) 101 i1 (.agg #[.int .i64 0, .int .i64 0, .int .i64 0, .slice none 0 0]) 4 48 Try.under28 hj hy0 hy1 hy2 rfl (by decide) _ k _ (by rfl) (World.ownsRow.alloc (w := w8.drew) own2.drew _) ⟨w8.heap.size, 0, none⟩ 1 1 [.int .i64 (S.P k).id, .int .i64 (S.P k).pw, .int .i64 (S.P k).ph, .slice cp (S.P k).n cc] (by rfl) rfl (by exact news_at w8.drew _ 101) (by simp [Value.oneCell']) (by omega) (by unfold maxLen; omega) (by omega) (by simp; omega) (w8.heap.size + 1) (by simp) ?_); intro g' cap' w5 own5 gr5 hg5 lt5; have N9 := Lib.hid (((N8.out.later (Below.refl _ _).drew).later (below_alloc w8.drew _)).grown (World.ownsRow.alloc (w := w8.drew) own2.drew _) gr5); have T9 := Lib.hid ((Tr.of_below (B := A + 1 + 1) (e0 := 101) (Below.refl _ w8).drew).trans ((Tr.of_below (below_alloc w8.drew _)).trans (Tr.grown (World.ownsRow.alloc (w := w8.drew) own2.drew _) gr5))); have OW5 := Lib.hid own5; have m10 := N9.out.xb.2.2 11 _ rfl; have mf := N9.out.xb.2.1; have mz := N9.out.xb.1; clear own5 gr5 hg5)
          all_goals
            have M9 := Lib.hid (M8.out.next O8.out T9.out OW5.out)
            go_wp2_with fail
            refine ⟨⟨k + 1, by go_num, by omega, _, _, N9.out.put 11 _ (by simp), M9.out.tr (e0 := 0) (by decide) (by decide) (Tr.set _ _ (show A + 1 < A + 1 + 1 by omega)), (GM8.out.tr (by decide) (by decide) T9.out).tr (e0 := 0) (by decide) (by decide) (Tr.set _ _ (show A + 1 < A + 1 + 1 by omega)), ?_, ?_⟩, by (first | (simp [intOf]; done) | (simp [intOf]; omega) | (simp only [intOf]; omega))⟩
            · exact ownsRow_setCell_below (T9.out _ _ _ _ _ (by decide) H8.out) (a := ⟨A + 1, 11, none⟩) (show A + 1 < A + 1 + 1 by omega) _
            · exact ownsRow_setCell_below (T9.out _ _ _ _ _ (by decide) R8.out) (a := ⟨A + 1, 11, none⟩) (show A + 1 < A + 1 + 1 by omega) _
        · obtain rfl : k = S.np := by omega
          have kI : ¬ (S.np : Int) < (S.np : Int) := by omega
          go_wp2_with fail
          go_ret
          exact ⟨A + 1, _, _, _, _, rfl, by rw [← HW1.out.2]; omega, by rw [← HW1.out.2]; exact N6.out.bel, N6.out.xb, ⟨_, _, rfl⟩, (Row.kept P6.out).and (GM.out.kept.and PM.out.kept)⟩
end Go.Proofs.Ytkhdielfnphheaa
