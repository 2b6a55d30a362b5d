/- Contract of the tracer's add. -/
import Derived.Test.YthglgempbdaikaaPa3
namespace Go.Proofs.Ythglgempbdaikaa
open Go.RowKit

theorem own_ne {w : World} {Bn T e s : Nat} {v : Value} {n : Nat} {xs : List Value} (h : w.ownsRow Bn e s v n xs) (hT : T < Bn) : v.ownBlock ≠ some T := fun hh => by
  have := (h.lt T hh).1; omega
theorem BxAt.grown {w w1 : World} {g : Nat} {cs : List Value} {v : Value} (h : BxAt w g cs) (hg : w.grownBy w1 v.ownBlock) (hne : v.ownBlock ≠ some g) : BxAt w1 g cs := by
  have hb : w1.heap[g]? = w.heap[g]? := hg.block g h.1 (fun e => hne e.symm)
  exact ⟨Nat.lt_of_lt_of_le h.1 hg.size, fun k => (World.frozen?_of_block (w := w) (a := ⟨g, k, none⟩) hb).trans (h.2.1 k), fun k u hu => (World.cell?_of_block (w := w) (a := ⟨g, k, none⟩) hb).trans (h.2.2 k u hu)⟩
theorem DRow.setT {w : World} {Bd Bn T i : Nat} {vd u : Value} {L : List (List Pt × Bool)} (h : DRow w Bd Bn vd L) (hT : T < Bd) : DRow (w.setCell ⟨T, i, none⟩ u) Bd Bn vd L := by
  obtain ⟨cs, ho, hn, hlt, hs⟩ := h
  refine ⟨cs, ownsRow_setCell_below ho hT u, fun g hg j x hx => ?_, hlt, fun j hj => ?_⟩
  · have := (ho.lt g hg).1
    rw [World.cell?_setCell_other _ _ _ _ (by simp only [ne_eq, Addr.mk.injEq]; omega)] at hx
    exact hn g hg j x hx
  · obtain ⟨p, n, c, h1, h2, g, off, cap, hv, hA, hlt2, hp⟩ := hs j hj
    refine ⟨p, n, c, h1, h2, g, off, cap, hv, hA, hlt2, fun k hk => ⟨?_, ?_⟩⟩
    · rw [World.cell?_setCell_other _ _ _ _ (by simp only [ne_eq, Addr.mk.injEq]; omega)]; exact (hp k hk).1
    · rw [World.cell?_setCell_other _ _ _ _ (by simp only [ne_eq, Addr.mk.injEq]; omega)]; exact (hp k hk).2
/-- a point more -/
theorem TrS.yes {w w5 : World} {T Bd Bn g' cap' : Nat} {t : TS} {vd : Value} {p : Option Addr} {n c : Nat} {x y : Int} (hv : ∃ p n c, vd = .slice p n c) (h1 : T < Bd) (h2 : Bd ≤ Bn) (h3 : Bn ≤ w.heap.size) (hD : DRow w Bd Bn vd t.done)
    (tb : BxAt w5 T [vd, .slice p n c, .int .i64 t.pos.1, .int .i64 t.pos.2]) (hb : Below Bn w w5) (own : w5.ownsRow Bn 42 2 (.slice (some ⟨g', 0, none⟩) (t.now.length + 1) cap') (t.now.length + 1) (rowL (t.now ++ [(x, y)]))) (hc : t.now = [] ∨ (x, y) ≠ t.pos) :
    TrS (((w5.setCell ⟨T, 1, none⟩ (.slice (some ⟨g', 0, none⟩) (t.now.length + 1) cap')).setCell ⟨T, 2, none⟩ (.int .i64 x)).setCell ⟨T, 3, none⟩ (.int .i64 y)) T Bd Bn (t.add (x, y)) := by
  have b1 := tb.put 1 (.slice (some ⟨g', 0, none⟩) (t.now.length + 1) cap') (by simp)
  have b2 := b1.put 2 (.int .i64 x) (by simp)
  have b3 := b2.put 3 (.int .i64 y) (by simp)
  have d5 := hD.below hb (Nat.le_refl _)
  have hnow : (t.add (x, y)).now = t.now ++ [(x, y)] := if_pos hc
  have hlen : (t.add (x, y)).now.length = t.now.length + 1 := by rw [hnow]; simp
  refine ⟨vd, _, _, _, b3, hv, h1, h2, ?_, ?_, ((d5.setT h1).setT h1).setT h1⟩
  · have := hb.size; simp; omega
  · rw [hlen, hnow]
    exact ownsRow_setCell_below (ownsRow_setCell_below (ownsRow_setCell_below own (a := ⟨T, 1, none⟩) (show T < Bn by omega) _) (a := ⟨T, 2, none⟩) (show T < Bn by omega) _) (a := ⟨T, 3, none⟩) (show T < Bn by omega) _
/-- the same point again -/
theorem TrS.no {w w5 : World} {T Bd Bn : Nat} {t : TS} {vd : Value} {p : Option Addr} {n c : Nat} {x y : Int} (hv : ∃ p n c, vd = .slice p n c) (h1 : T < Bd) (h2 : Bd ≤ Bn) (h3 : Bn ≤ w.heap.size) (hD : DRow w Bd Bn vd t.done)
    (tb : BxAt w5 T [vd, .slice p n c, .int .i64 t.pos.1, .int .i64 t.pos.2]) (hb : Below w.heap.size w w5) (own : w.ownsRow Bn 42 2 (.slice p n c) t.now.length (rowL t.now)) (hc : ¬ (t.now = [] ∨ (x, y) ≠ t.pos)) :
    TrS ((w5.setCell ⟨T, 2, none⟩ (.int .i64 x)).setCell ⟨T, 3, none⟩ (.int .i64 y)) T Bd Bn (t.add (x, y)) := by
  have b2 := tb.put 2 (.int .i64 x) (by simp)
  have b3 := b2.put 3 (.int .i64 y) (by simp)
  have d5 := hD.below (hb.mono h3) (Nat.le_refl _)
  have hnow : (t.add (x, y)).now = t.now := if_neg hc
  refine ⟨vd, _, _, _, b3, hv, h1, h2, ?_, ?_, (d5.setT h1).setT h1⟩
  · have := hb.size; simp; omega
  · rw [hnow]
    exact ownsRow_setCell_below (ownsRow_setCell_below (own_later own hb) (a := ⟨T, 2, none⟩) (show T < Bn by omega) _) (a := ⟨T, 3, none⟩) (show T < Bn by omega) _
set_option maxRecDepth 100000 in
set_option maxHeartbeats 6400000 in
theorem add_any (T Bd Bn : Nat) (t : TS) (a : Option Addr) (m cap : Nat) (X Y : Nat → Int) (w : World) (hl : t.now.length + m ≤ 100000) (hT : TrS w T Bd Bn t) (ha : 0 < m → ∃ g off, a = some ⟨g, off, none⟩ ∧ Fre w T g ∧ PtAt w g off m X Y) :
    Calls Try.prog 35 #[.pointer (some ⟨T, 0, none⟩), .slice a m cap] w (fun e w' => e = .returned (.tuple #[]) ∧ TrS w' T Bd Bn (t.adds X Y m) ∧ Frm w w' T) := by
  obtain ⟨i0, hi, hz0, hz1, hz2⟩ := info_parts Try.info42
  have HT := Lib.hid hT
  have HA := Lib.hid ha
  clear hT ha
  go_enter Try.func35, Try.ntmps35
  go_wp2_with fail
  go_loopw [8] (fun i wr => ∃ k : Nat, k ≤ m ∧ i = .int .i64 k ∧ TrS wr T Bd Bn (t.adds X Y k) ∧ Frm w wr T) (fun i _ => m - (intOf i).toNat)
  case atStart => exact ⟨0, by omega, rfl, HT.out, Frm.refl _ _⟩
  case round =>
    obtain ⟨k, hk, rfl, htr, hfr⟩ := hrel
    have TR := Lib.hid htr
    have FR := Lib.hid hfr
    clear htr hfr
    by_cases hlt : k < m
    · obtain ⟨g, off, rfl, hfre, hp⟩ := HA.out (by omega)
      have fg := (FR.out.block g hfre).2
      have c0 := FR.out.cell hfre (hp k hlt).1
      have c1 := FR.out.cell hfre (hp k hlt).2
      clear hp
      have hk0 : (0 : Int) ≤ (k : Int) := by omega
      have hk3 : (k : Int) < (m : Int) := by omega
      obtain ⟨t1, ht1⟩ : ∃ t1, t1 = t.adds X Y k := ⟨_, rfl⟩
      have hlen : t1.now.length ≤ 100000 := by have := (adds_len t X Y k).1; rw [ht1]; omega
      have HN : Hid (t.adds X Y (k + 1) = t1.add (X k, Y k)) := Lib.hid (by rw [ht1]; rfl)
      rw [← ht1] at TR
      clear ht1
      obtain ⟨x, hx⟩ : ∃ x, x = X k := ⟨_, rfl⟩
      obtain ⟨y, hy⟩ : ∃ y, y = Y k := ⟨_, rfl⟩
      rw [← hx, ← hy] at HN
      rw [← hx] at c0
      rw [← hy] at c1
      clear hx hy
      obtain ⟨vd, p, n, c, tb, ⟨pd, nd, cd, rfl⟩, h1, h2, h3, own, hD⟩ := TR.out
      have hn : n = t1.now.length := by
        rcases own.2 with ⟨hv, h0⟩ | ⟨_, _, _, hv, _⟩
        · simp only [Value.slice.injEq] at hv; omega
        · simp only [Value.slice.injEq] at hv; omega
      obtain ⟨ax, hax⟩ : ∃ ax, ax = t1.pos.1 := ⟨_, rfl⟩
      obtain ⟨ay, hay⟩ : ∃ ay, ay = t1.pos.2 := ⟨_, rfl⟩
      have zT := tb.1
      obtain ⟨w1, hw1⟩ : ∃ w1, w1 = wr.alloc (.cells #[.int .i64 x, .int .i64 y] 42) := ⟨_, rfl⟩
      have B1 : Hid (Below wr.heap.size wr w1) := Lib.hid (by rw [hw1]; exact below_alloc _ _)
      have G1 : BxAt w1 wr.heap.size [.int .i64 x, .int .i64 y] := by rw [hw1]; exact BxAt.new wr _ _
      have T1 := tb.later B1.out
      obtain ⟨G, hG⟩ : ∃ G, G = wr.heap.size := ⟨_, rfl⟩
      have HW1 := Lib.hid hw1
      clear hw1
      go_wp2_with fail
      rw [← HW1.out, ← hG]
      rw [← hG] at G1
      have e0 := T1.2.2 0 _ rfl
      have e1 := T1.2.2 1 _ rfl
      have e2 := T1.2.2 2 _ rfl
      have e3 := T1.2.2 3 _ rfl
      have ef := T1.2.1
      have f0 := G1.2.2 0 _ rfl
      have f1 := G1.2.2 1 _ rfl
      have zG := G1.1
      have GT : G ≠ T := by rw [hG]; omega
      rw [← hax] at e2
      rw [← hay] at e3
      have HG := Lib.hid hG
      have OWN := Lib.hid own
      have GO : Hid (some G ≠ (Value.slice p n c).ownBlock) := Lib.hid (fun e => by have := (own.lt G e.symm).2; omega)
      have HD := Lib.hid hD
      have HNL := Lib.hid hn
      have HP := Lib.hid (And.intro hax hay)
      have TB := Lib.hid T1
      have XP : Hid ((x == ax) = true → (y == ay) = true → (x, y) = t1.pos) := Lib.hid (fun h1 h2 => by rw [beq_iff_eq] at h1 h2; rw [h1, h2, hax, hay])
      have XN : Hid ((x == ax) = false ∨ (y == ay) = false → (x, y) ≠ t1.pos) := Lib.hid (fun h he => by rw [← he] at hax hay; rcases h with h | h <;> simp [hax, hay] at h)
      have NL : Hid (n = 0 → t1.now = []) := Lib.hid (fun h => List.eq_nil_of_length_eq_zero (by omega))
      have NN : Hid (n ≠ 0 → t1.now ≠ []) := Lib.hid (fun h he => by rw [he] at hn; simp at hn; omega)
      clear hG own hD hn hax hay T1 tb G1 c0 c1
      have hcase : (((n : Int) == 0) = true ∧ Hid (t1.now = [] ∨ (x, y) ≠ t1.pos)) ∨ (((n : Int) == 0) = false ∧ (x == ax) = false ∧ Hid (t1.now = [] ∨ (x, y) ≠ t1.pos)) ∨ (((n : Int) == 0) = false ∧ (x == ax) = true ∧ (y == ay) = false ∧ Hid (t1.now = [] ∨ (x, y) ≠ t1.pos)) ∨ (((n : Int) == 0) = false ∧ (x == ax) = true ∧ (y == ay) = true ∧ Hid (¬ (t1.now = [] ∨ (x, y) ≠ t1.pos))) := by
        by_cases hn0 : n = 0
        · exact Or.inl ⟨by simp; omega, Lib.hid (Or.inl (NL.out hn0))⟩
        · have z1 : ((n : Int) == 0) = false := by simp; omega
          cases z2 : (x == ax)
          · exact Or.inr (Or.inl ⟨z1, rfl, Lib.hid (Or.inr (XN.out (Or.inl z2)))⟩)
          · cases z3 : (y == ay)
            · exact Or.inr (Or.inr (Or.inl ⟨z1, rfl, rfl, Lib.hid (Or.inr (XN.out (Or.inr z3)))⟩))
            · refine Or.inr (Or.inr (Or.inr ⟨z1, rfl, rfl, Lib.hid ?_⟩))
              rintro (h | h)
              · exact NN.out hn0 h
              · exact h (XP.out z2 z3)
      clear NL NN XP XN
      rcases hcase with ⟨z1, HC⟩ | ⟨z1, z2, HC⟩ | ⟨z1, z2, z3, HC⟩ | ⟨z1, z2, z3, HC⟩
      rotate_left 3
      · go_quiet (fail)
        go_wp2_with fail
        have B2 : Below wr.heap.size wr (w1.drewN nq) := bthen B1.out (below_drewN (Below.refl _ _) _)
        have T2 := TB.out.later (below_drewN (Below.refl w1.heap.size w1) nq)
        refine ⟨⟨k + 1, by omega, by go_num, ?_, ?_⟩, by (first | (simp [intOf]; done) | (simp [intOf]; omega) | (simp only [intOf]; omega))⟩
        · rw [HN.out]
          exact TrS.no (vd := .slice pd nd cd) ⟨_, _, _, rfl⟩ h1 h2 h3 HD.out T2 B2 (by rw [HNL.out] at OWN ⊢; exact OWN.out) HC.out
        · exact FR.out.trans (((Frm.of_below zT B2).store (T2.2.2 2 _ rfl) (fun z h => by cases h)).store ((T2.put 2 (.int .i64 x) (by simp)).2.2 3 _ rfl) (fun z h => by cases h))
      all_goals
        go_quiet (fail)
        go_wp2_with fail
      all_goals
        obtain ⟨w2, hw2⟩ : ∃ w2, w2 = w1.drewN nq := ⟨_, rfl⟩
        have B2 : Hid (Below w1.heap.size w1 w2) := Lib.hid (by rw [hw2]; exact below_drewN (Below.refl _ _) _)
        rw [← hw2]
        have T2 := TB.out.later B2.out
        have k0 := T2.2.2 0 _ rfl
        have k1 := T2.2.2 1 _ rfl
        have k2 := T2.2.2 2 _ rfl
        have k3 := T2.2.2 3 _ rfl
        have kf := T2.2.1
        have g0 := cell_later B2.out f0
        have g1 := cell_later B2.out f1
        have zG2 : G < w2.heap.size := Nat.lt_of_lt_of_le zG B2.out.size
        have own2 := own_later OWN.out (bthen B1.out B2.out)
        have TB2 := Lib.hid T2
        have zT2 : T < w2.heap.size := TB2.out.1
        have hB2 : Bn ≤ w2.heap.size := Nat.le_trans h3 (bthen B1.out B2.out).size
        clear hw2 T2 e0 e1 e2 e3 ef f0 f1
        go_region_law (go_loud (refine step_append_lies _ rfl (.tmp 30) (.tmp 32) 54 rfl Bn 42 i0 (.agg #[.int .i64 0, .int .i64 0]) 2 16 Try.underlying54 hi hz0 hz1 hz2 rfl (by decide) _ t1.now.length _ (by rfl) (World.ownsRow.alloc (w := w2.drew) own2.drew _) ⟨w2.heap.size, 0, none⟩ 1 1 [.int .i64 x, .int .i64 y] (by rfl) rfl (by exact news_at w2.drew _ 42) (by simp [Value.oneCell']) (by omega) (by unfold maxLen; omega) (by omega) (by simp; omega) (w2.heap.size + 1) (by simp) ?_); intro g' cap' w5 own5 gr5 hg5 lt5; have T5 := ((show BxAt w2.drew T _ from TB2.out).later (below_alloc _ _)).grown gr5 (own_ne own2 (by omega)); have B5 := Lib.hid ((((Below.refl Bn w2).drew).alloc hB2 _).grown gr5 (by simp; omega) (fun k hk => (own2.lt k hk).1)); have F5 := Lib.hid (((Frm.of_below zT2 ((Below.refl _ w2).drew)).trans (Frm.of_below (w := w2.drew) zT2 (below_alloc w2.drew _))).trans (Frm.grown (by simp; omega) ((cell_later (below_alloc w2.drew _) (show w2.drew.cell? ⟨T, 1, none⟩ = _ from k1))) (Or.inr rfl) (own_ne own2 (by omega)) gr5)); have OW5 := Lib.hid own5; have G5 := Lib.hid hg5; have m1 := T5.2.2 1 _ rfl; have n0 := gr5.cell (cell_later (below_alloc w2.drew _) (show w2.drew.cell? ⟨G, 0, none⟩ = _ from g0)) GO.out; have n1 := gr5.cell (cell_later (below_alloc w2.drew _) (show w2.drew.cell? ⟨G, 1, none⟩ = _ from g1)) GO.out; have m2 := T5.2.2 2 _ rfl; have m3 := T5.2.2 3 _ rfl; have mf := T5.2.1; have T55 := Lib.hid T5; clear own5 gr5 hg5 T5)
        all_goals
          go_wp2_with fail
          refine ⟨⟨k + 1, by omega, by go_num, ?_, ?_⟩, by (first | (simp [intOf]; done) | (simp [intOf]; omega) | (simp only [intOf]; omega))⟩
          · rw [HN.out]
            exact TrS.yes (vd := .slice pd nd cd) ⟨_, _, _, rfl⟩ h1 h2 h3 HD.out T55.out (((bthen B1.out B2.out).mono h3).trans B5.out) (by rw [← rowL_snoc]; exact OW5.out) HC.out
          · refine FR.out.trans ((Frm.of_below zT (bthen B1.out B2.out)).trans (((F5.out.store m1 (fun z hz hlt hf => ?_)).store ((T55.out.put 1 _ (by simp)).2.2 2 _ rfl) (fun z h => by cases h)).store (((T55.out.put 1 _ (by simp)).put 2 (.int .i64 x) (by simp)).2.2 3 _ rfl) (fun z h => by cases h)))
            obtain rfl : g' = z := by simpa [Value.ownBlock] using hz
            rcases G5.out with h | h
            · exact hf.2.2.2 _ k1 h
            · omega
    · obtain rfl : k = m := by omega
      go_wp2_with fail
      refine bodyPost_end (results_none rfl _ _ _) rfl ?_
      exact ⟨rfl, TR.out, FR.out⟩
end Go.Proofs.Ythglgempbdaikaa
