/- Contract of the tracer's finish: the walk. -/
import Derived.Test.YthglgempbdaikaaPa5
namespace Go.Proofs.Ythglgempbdaikaa
open Go.RowKit

theorem fin_of {t : TS} {c : Bool} {l : List Pt} (h : finL c t.now = l) (h1 : 1 < l.length) : t.fin c = ⟨t.done ++ [(l, c)], [], t.pos⟩ := by
  unfold TS.fin; rw [h, if_pos h1]
theorem fin_not {t : TS} {c : Bool} {l : List Pt} (h : finL c t.now = l) (h1 : ¬ 1 < l.length) : t.fin c = ⟨t.done, [], t.pos⟩ := by
  unfold TS.fin; rw [h, if_neg h1]
theorem finL_eq {l : List Pt} (h : 1 < l.length) (he : l.getD 0 (0, 0) = l.getD (l.length - 1) (0, 0)) : finL true l = l.take (l.length - 1) := if_pos ⟨rfl, h, he⟩
theorem finL_false (l : List Pt) : finL false l = l := if_neg (fun h => by cases h.1)
theorem finL_ne {l : List Pt} (he : ¬ l.getD 0 (0, 0) = l.getD (l.length - 1) (0, 0)) : finL true l = l := if_neg (fun h => he h.2.2)
theorem finL_short {l : List Pt} (c : Bool) (h : ¬ 1 < l.length) : finL c l = l := if_neg (fun hh => h hh.2.1)
theorem own_pts {w : World} {B g n c : Nat} {l : List Pt} (h : w.ownsRow B 42 2 (.slice (some ⟨g, 0, none⟩) n c) l.length (rowL l)) : B ≤ g ∧ g < w.heap.size ∧ PtAt w g 0 l.length (fun k => (l.getD k (0, 0)).1) (fun k => (l.getD k (0, 0)).2) := by
  have hlt := h.lt g rfl
  refine ⟨hlt.1, hlt.2, fun j hj => ?_⟩
  have hadd : ∀ i, (⟨g, 0, none⟩ : Addr).add i = ⟨g, 0 + i, none⟩ := by intro i; unfold Addr.add; split <;> simp_all
  have hc := h.cells (g := g) rfl (j * 2) _ (rowL_get l j hj).1
  have hd := h.cells (g := g) rfl (j * 2 + 1) _ (rowL_get l j hj).2
  rw [hadd] at hc hd
  exact ⟨hc, hd⟩
theorem getD_take {l : List Pt} {q k : Nat} (h : k < q) : (l.take q).getD k (0, 0) = l.getD k (0, 0) := by
  simp [List.getD_eq_getElem?_getD, h]
theorem ni2 {p : Option Addr} {n c : Nat} {b : Bool} : ∀ u ∈ [Value.slice p n c, .bool b], noI u := by
  intro u hu kk z
  simp only [List.mem_cons, List.not_mem_nil, or_false] at hu
  rcases hu with rfl | rfl <;> intro h <;> cases h
def FinPost (T Bd : Nat) (t : TS) (w : World) (e : Ending) (w' : World) : Prop := e = .returned (.tuple #[]) ∧ ∃ B', TrS w' T Bd B' t ∧ Frm w w' T
set_option maxRecDepth 100000 in
set_option maxHeartbeats 6400000 in
theorem fin_any (T Bd Bn : Nat) (t : TS) (c : Bool) (w : World) (hl : t.now.length ≤ 100000) (hd : t.done.length ≤ 100000) (hT : TrS w T Bd Bn t) :
    Calls Try.prog 23 #[.pointer (some ⟨T, 0, none⟩), .bool c] w (FinPost T Bd (t.fin c) w) := by
  obtain ⟨i0, hi, hz0, hz1, hz2⟩ := info_parts Try.info56
  obtain ⟨vd, p, n, c0, tb, ⟨pd, nd, cd, rfl⟩, h1, h2, h3, own, hD⟩ := hT
  have hn : n = t.now.length := by
    rcases own.2 with ⟨hv, h0⟩ | ⟨_, _, _, hv, _⟩
    · simp only [Value.slice.injEq] at hv; omega
    · simp only [Value.slice.injEq] at hv; omega
  have HD := Lib.hid hD
  obtain ⟨cs, od, nid, ltd, spd⟩ := hD
  have CSL : Hid (cs.length = t.done.length * 2) := Lib.hid od.1
  have OD := Lib.hid od
  have NI := Lib.hid nid
  have SP := Lib.hid spd
  have TB := Lib.hid tb
  have OWN := Lib.hid own
  have HN := Lib.hid hn
  have zT := tb.1
  have a0 := tb.2.2 0 _ rfl
  have a1 := tb.2.2 1 _ rfl
  have af := tb.2.1
  clear tb od nid spd ltd
  by_cases hn1 : 1 < n
  · obtain ⟨g, rfl⟩ : ∃ g, p = some ⟨g, 0, none⟩ := by
      rcases own.2 with ⟨hv, h0⟩ | ⟨g, _, _, hv, _⟩
      · omega
      · simp only [Value.slice.injEq] at hv; exact ⟨g, hv.1⟩
    obtain ⟨hg1, hg2, hp⟩ := own_pts own
    obtain ⟨q, rfl⟩ : ∃ q, n = q + 1 := ⟨n - 1, by omega⟩
    have hq1 : 1 ≤ q := by omega
    have PA := Lib.hid hp
    have b0 := (hp 0 (by omega)).1
    have b1 := (hp 0 (by omega)).2
    have b2 := (hp q (by omega)).1
    have b3 := (hp q (by omega)).2
    simp only [Nat.zero_mul, Nat.zero_add, Nat.add_zero] at b0 b1 b2 b3
    obtain ⟨x0, hx0⟩ : ∃ x, x = (t.now.getD 0 (0, 0)).1 := ⟨_, rfl⟩
    obtain ⟨y0, hy0⟩ : ∃ x, x = (t.now.getD 0 (0, 0)).2 := ⟨_, rfl⟩
    obtain ⟨xl, hxl⟩ : ∃ x, x = (t.now.getD q (0, 0)).1 := ⟨_, rfl⟩
    obtain ⟨yl, hyl⟩ : ∃ x, x = (t.now.getD q (0, 0)).2 := ⟨_, rfl⟩
    rw [← hx0] at b0
    rw [← hy0] at b1
    rw [← hxl] at b2
    rw [← hyl] at b3
    have eq1 : t.now.length - 1 = q := by omega
    have XE : Hid ((x0 == xl) = true → (y0 == yl) = true → t.now.getD 0 (0, 0) = t.now.getD (t.now.length - 1) (0, 0)) := Lib.hid (fun h1 h2 => by
      rw [beq_iff_eq] at h1 h2
      rw [eq1]
      exact Prod.ext (by rw [← hx0, ← hxl, h1]) (by rw [← hy0, ← hyl, h2]))
    have XN : Hid ((x0 == xl) = false ∨ (y0 == yl) = false → ¬ t.now.getD 0 (0, 0) = t.now.getD (t.now.length - 1) (0, 0)) := Lib.hid (fun h he => by
      rw [eq1] at he
      rw [he] at hx0 hy0
      rcases h with h | h <;> simp [hx0, hy0, hxl, hyl] at h)
    have PW : Hid (∀ W, Below w.heap.size w W → PLn W Bd W.heap.size (.slice (some ⟨g, 0, none⟩) (q + 1) c0) t.now) := Lib.hid (fun W hW => ⟨g, 0, c0, by rw [← hn], by omega, Nat.lt_of_lt_of_le hg2 hW.size, hp.later hW⟩)
    have PT : Hid (∀ W, Below w.heap.size w W → PLn W Bd W.heap.size (.slice (some ⟨g, 0, none⟩) q c0) (t.now.take (t.now.length - 1))) := Lib.hid (fun W hW => by
      have e : (t.now.take (t.now.length - 1)).length = q := by rw [List.length_take]; omega
      refine ⟨g, 0, c0, by rw [e], by omega, Nat.lt_of_lt_of_le hg2 hW.size, fun k hk => ?_⟩
      rw [e] at hk
      rw [eq1]
      simp only [getD_take hk]
      exact hp.later hW k (by omega))
    have TL : Hid (1 < t.now.length ∧ (t.now.take (t.now.length - 1)).length = q) := Lib.hid ⟨by omega, by rw [List.length_take]; omega⟩
    have hq9 : q ≤ 100000 := by omega
    have hc9 : (q : Int) ≤ (c0 : Int) := by
      rcases own.2 with ⟨hv, h0⟩ | ⟨_, cap, _, hv, _, _, hcap, _⟩
      · cases hv
      · simp only [Value.slice.injEq] at hv
        omega
    clear hp hx0 hy0 hxl hyl eq1 own hn hg1
    have z1 : decide ((1 : Int) < (q : Int) + 1) = true := decide_eq_true (by omega)
    have z2 : decide ((1 : Int) < ((q + 1 : Nat) : Int)) = true := decide_eq_true (by omega)
    have z3 : (1 : Int) < (q : Int) + 1 := by omega
    have z4 : (0 : Int) ≤ (q : Int) := by omega
    have z5 : IntKind.i64.wrap ((q : Int) + 1 - 1) = (q : Int) := by rw [IntWalk.i64_in _ (by omega)]; omega
    have z6 : (q : Int) < (q : Int) + 1 := by omega
    cases c
    · go_enter Try.func23, Try.ntmps23
      go_wp2_with fail
      go_quiet (fail)
      obtain ⟨w1, hw1⟩ : ∃ w1, w1 = w.drewN nq := ⟨_, rfl⟩
      have b01 : Below w.heap.size w w1 := by rw [hw1]; exact below_drewN (Below.refl _ _) _
      rw [← hw1]
      clear hw1 a0 a1 af
      have B01 := Lib.hid b01
      have tb1 := TB.out.later b01
      have s0 := tb1.2.2 0 _ rfl
      have s1 := tb1.2.2 1 _ rfl
      have sf := tb1.2.1
      have zT1 := tb1.1
      have TB1 := Lib.hid tb1
      clear tb1 b01
      have FN : Hid (t.fin false = ⟨t.done ++ [(t.now, false)], [], t.pos⟩) := Lib.hid (fin_of (finL_false _) TL.out.1)
      have PL : Hid (PLn w1 Bd w1.heap.size (.slice (some ⟨g, 0, none⟩) (q + 1) c0) (t.now)) := Lib.hid (PW.out w1 B01.out)
      have OD1 := Lib.hid (own_later OD.out B01.out)
      have NI1 : Hid (NoInt w1 (.slice pd nd cd)) := Lib.hid (fun z hz j u hu => by
        rw [B01.out.cell (p := ⟨z, j, none⟩) (OD.out.lt z hz).2] at hu
        exact NI.out z hz j u hu)
      have SP1 : Hid (∀ j, j < t.done.length → ∃ p n c, cs[j * 2]? = some (.slice p n c) ∧ cs[j * 2 + 1]? = some (.bool (t.done.getD j ([], false)).2) ∧ PLn w1 Bd Bn (.slice p n c) (t.done.getD j ([], false)).1) := Lib.hid (fun j hj => by
        obtain ⟨p, n, c, e1, e2, e3⟩ := SP.out j hj
        exact ⟨p, n, c, e1, e2, e3.below (B01.out.mono h3) (Nat.le_refl _)⟩)
      have H31 : Hid (Bn ≤ w1.heap.size) := Lib.hid (Nat.le_trans h3 B01.out.size)
      have HB1 : Hid (Bd ≤ w1.heap.size) := Lib.hid (Nat.le_trans h2 H31.out)
      have OT : Hid ((Value.slice pd nd cd).ownBlock ≠ some T) := Lib.hid (own_ne OD.out h1)
      go_wp2_with (at_builtin; go_loud (refine wpList_nia (w0 := w1) rfl (.tmp 39) (.tmp 43) 22 rfl Bd 56 i0 (.agg #[.slice none 0 0, .bool false]) 2 32 [.slice (some ⟨g, 0, none⟩) (q + 1) c0, .bool false] Try.underlying22 hi hz0 hz1 hz2 rfl rfl (by decide) _ _ _ rfl OD1.out rfl (by simp [Value.oneCell']) ?c1 ?c2 HB1.out NI1.out ni2 ni2 ?_))
      case c1 => unfold maxLen; omega
      case c2 => omega
      intro g' cap' w5 ow5 hb5 gr5 ni5 gl5
      have T5 := TB1.out.grown gr5 OT.out
      have r0 := T5.2.2 0 _ rfl
      have r1 := T5.2.2 1 _ rfl
      have rf := T5.2.1
      have TT := Lib.hid T5
      have OW5 := Lib.hid ow5
      have GR5 := Lib.hid gr5
      have NI5 := Lib.hid ni5
      have GL5 := Lib.hid gl5
      clear T5 ow5 hb5 gr5 ni5 gl5 s0 s1 sf
      go_wp2_with fail
      refine bodyPost_end (results_none rfl _ _ _) rfl ⟨rfl, w5.heap.size, ?_, ?_⟩
      · exact TrS.fin_yes h1 h2 H31.out TT.out CSL.out OW5.out GR5.out NI5.out NI1.out SP1.out PL.out FN.out
      · refine (Frm.of_below zT B01.out).trans (((Frm.grown zT1 (TB1.out.2.2 0 _ rfl) (Or.inl rfl) OT.out GR5.out).store (TT.out.2.2 0 _ rfl) (fun z hz hlt hf => ?_)).store ((TT.out.put 0 _ (by simp)).2.2 1 _ rfl) (fun z h => by cases h))
        obtain rfl : g' = z := by simpa [Value.ownBlock] using hz
        rcases GL5.out with h | h
        · exact hf.2.2.1 _ (TB1.out.2.2 0 _ rfl) h
        · omega
    · have hcase : ((x0 == xl) = false ∧ Hid (¬ t.now.getD 0 (0, 0) = t.now.getD (t.now.length - 1) (0, 0))) ∨ ((x0 == xl) = true ∧ (y0 == yl) = false ∧ Hid (¬ t.now.getD 0 (0, 0) = t.now.getD (t.now.length - 1) (0, 0))) ∨ ((x0 == xl) = true ∧ (y0 == yl) = true ∧ Hid (t.now.getD 0 (0, 0) = t.now.getD (t.now.length - 1) (0, 0))) := by
        cases k2 : (x0 == xl)
        · exact Or.inl ⟨rfl, Lib.hid (XN.out (Or.inl k2))⟩
        · cases k3 : (y0 == yl)
          · exact Or.inr (Or.inl ⟨rfl, rfl, Lib.hid (XN.out (Or.inr k3))⟩)
          · exact Or.inr (Or.inr ⟨rfl, rfl, Lib.hid (XE.out k2 k3)⟩)
      clear XE XN
      rcases hcase with ⟨k2, HC⟩ | ⟨k2, k3, HC⟩ | ⟨k2, k3, HC⟩
      · go_enter Try.func23, Try.ntmps23
        go_wp2_with fail
        go_quiet (fail)
        obtain ⟨w1, hw1⟩ : ∃ w1, w1 = w.drewN nq := ⟨_, rfl⟩
        have b01 : Below w.heap.size w w1 := by rw [hw1]; exact below_drewN (Below.refl _ _) _
        rw [← hw1]
        clear hw1 a0 a1 af
        have B01 := Lib.hid b01
        have tb1 := TB.out.later b01
        have s0 := tb1.2.2 0 _ rfl
        have s1 := tb1.2.2 1 _ rfl
        have sf := tb1.2.1
        have zT1 := tb1.1
        have TB1 := Lib.hid tb1
        clear tb1 b01
        have FN : Hid (t.fin true = ⟨t.done ++ [(t.now, true)], [], t.pos⟩) := Lib.hid (fin_of (finL_ne HC.out) TL.out.1)
        have PL : Hid (PLn w1 Bd w1.heap.size (.slice (some ⟨g, 0, none⟩) (q + 1) c0) (t.now)) := Lib.hid (PW.out w1 B01.out)
        have OD1 := Lib.hid (own_later OD.out B01.out)
        have NI1 : Hid (NoInt w1 (.slice pd nd cd)) := Lib.hid (fun z hz j u hu => by
          rw [B01.out.cell (p := ⟨z, j, none⟩) (OD.out.lt z hz).2] at hu
          exact NI.out z hz j u hu)
        have SP1 : Hid (∀ j, j < t.done.length → ∃ p n c, cs[j * 2]? = some (.slice p n c) ∧ cs[j * 2 + 1]? = some (.bool (t.done.getD j ([], false)).2) ∧ PLn w1 Bd Bn (.slice p n c) (t.done.getD j ([], false)).1) := Lib.hid (fun j hj => by
          obtain ⟨p, n, c, e1, e2, e3⟩ := SP.out j hj
          exact ⟨p, n, c, e1, e2, e3.below (B01.out.mono h3) (Nat.le_refl _)⟩)
        have H31 : Hid (Bn ≤ w1.heap.size) := Lib.hid (Nat.le_trans h3 B01.out.size)
        have HB1 : Hid (Bd ≤ w1.heap.size) := Lib.hid (Nat.le_trans h2 H31.out)
        have OT : Hid ((Value.slice pd nd cd).ownBlock ≠ some T) := Lib.hid (own_ne OD.out h1)
        go_wp2_with (at_builtin; go_loud (refine wpList_nia (w0 := w1) rfl (.tmp 39) (.tmp 43) 22 rfl Bd 56 i0 (.agg #[.slice none 0 0, .bool false]) 2 32 [.slice (some ⟨g, 0, none⟩) (q + 1) c0, .bool true] Try.underlying22 hi hz0 hz1 hz2 rfl rfl (by decide) _ _ _ rfl OD1.out rfl (by simp [Value.oneCell']) ?c1 ?c2 HB1.out NI1.out ni2 ni2 ?_))
        case c1 => unfold maxLen; omega
        case c2 => omega
        intro g' cap' w5 ow5 hb5 gr5 ni5 gl5
        have T5 := TB1.out.grown gr5 OT.out
        have r0 := T5.2.2 0 _ rfl
        have r1 := T5.2.2 1 _ rfl
        have rf := T5.2.1
        have TT := Lib.hid T5
        have OW5 := Lib.hid ow5
        have GR5 := Lib.hid gr5
        have NI5 := Lib.hid ni5
        have GL5 := Lib.hid gl5
        clear T5 ow5 hb5 gr5 ni5 gl5 s0 s1 sf
        go_wp2_with fail
        refine bodyPost_end (results_none rfl _ _ _) rfl ⟨rfl, w5.heap.size, ?_, ?_⟩
        · exact TrS.fin_yes h1 h2 H31.out TT.out CSL.out OW5.out GR5.out NI5.out NI1.out SP1.out PL.out FN.out
        · refine (Frm.of_below zT B01.out).trans (((Frm.grown zT1 (TB1.out.2.2 0 _ rfl) (Or.inl rfl) OT.out GR5.out).store (TT.out.2.2 0 _ rfl) (fun z hz hlt hf => ?_)).store ((TT.out.put 0 _ (by simp)).2.2 1 _ rfl) (fun z h => by cases h))
          obtain rfl : g' = z := by simpa [Value.ownBlock] using hz
          rcases GL5.out with h | h
          · exact hf.2.2.1 _ (TB1.out.2.2 0 _ rfl) h
          · omega
      · go_enter Try.func23, Try.ntmps23
        go_wp2_with fail
        go_quiet (fail)
        obtain ⟨w1, hw1⟩ : ∃ w1, w1 = w.drewN nq := ⟨_, rfl⟩
        have b01 : Below w.heap.size w w1 := by rw [hw1]; exact below_drewN (Below.refl _ _) _
        rw [← hw1]
        clear hw1 a0 a1 af
        have B01 := Lib.hid b01
        have tb1 := TB.out.later b01
        have s0 := tb1.2.2 0 _ rfl
        have s1 := tb1.2.2 1 _ rfl
        have sf := tb1.2.1
        have zT1 := tb1.1
        have TB1 := Lib.hid tb1
        clear tb1 b01
        have FN : Hid (t.fin true = ⟨t.done ++ [(t.now, true)], [], t.pos⟩) := Lib.hid (fin_of (finL_ne HC.out) TL.out.1)
        have PL : Hid (PLn w1 Bd w1.heap.size (.slice (some ⟨g, 0, none⟩) (q + 1) c0) (t.now)) := Lib.hid (PW.out w1 B01.out)
        have OD1 := Lib.hid (own_later OD.out B01.out)
        have NI1 : Hid (NoInt w1 (.slice pd nd cd)) := Lib.hid (fun z hz j u hu => by
          rw [B01.out.cell (p := ⟨z, j, none⟩) (OD.out.lt z hz).2] at hu
          exact NI.out z hz j u hu)
        have SP1 : Hid (∀ j, j < t.done.length → ∃ p n c, cs[j * 2]? = some (.slice p n c) ∧ cs[j * 2 + 1]? = some (.bool (t.done.getD j ([], false)).2) ∧ PLn w1 Bd Bn (.slice p n c) (t.done.getD j ([], false)).1) := Lib.hid (fun j hj => by
          obtain ⟨p, n, c, e1, e2, e3⟩ := SP.out j hj
          exact ⟨p, n, c, e1, e2, e3.below (B01.out.mono h3) (Nat.le_refl _)⟩)
        have H31 : Hid (Bn ≤ w1.heap.size) := Lib.hid (Nat.le_trans h3 B01.out.size)
        have HB1 : Hid (Bd ≤ w1.heap.size) := Lib.hid (Nat.le_trans h2 H31.out)
        have OT : Hid ((Value.slice pd nd cd).ownBlock ≠ some T) := Lib.hid (own_ne OD.out h1)
        go_wp2_with (at_builtin; go_loud (refine wpList_nia (w0 := w1) rfl (.tmp 39) (.tmp 43) 22 rfl Bd 56 i0 (.agg #[.slice none 0 0, .bool false]) 2 32 [.slice (some ⟨g, 0, none⟩) (q + 1) c0, .bool true] Try.underlying22 hi hz0 hz1 hz2 rfl rfl (by decide) _ _ _ rfl OD1.out rfl (by simp [Value.oneCell']) ?c1 ?c2 HB1.out NI1.out ni2 ni2 ?_))
        case c1 => unfold maxLen; omega
        case c2 => omega
        intro g' cap' w5 ow5 hb5 gr5 ni5 gl5
        have T5 := TB1.out.grown gr5 OT.out
        have r0 := T5.2.2 0 _ rfl
        have r1 := T5.2.2 1 _ rfl
        have rf := T5.2.1
        have TT := Lib.hid T5
        have OW5 := Lib.hid ow5
        have GR5 := Lib.hid gr5
        have NI5 := Lib.hid ni5
        have GL5 := Lib.hid gl5
        clear T5 ow5 hb5 gr5 ni5 gl5 s0 s1 sf
        go_wp2_with fail
        refine bodyPost_end (results_none rfl _ _ _) rfl ⟨rfl, w5.heap.size, ?_, ?_⟩
        · exact TrS.fin_yes h1 h2 H31.out TT.out CSL.out OW5.out GR5.out NI5.out NI1.out SP1.out PL.out FN.out
        · refine (Frm.of_below zT B01.out).trans (((Frm.grown zT1 (TB1.out.2.2 0 _ rfl) (Or.inl rfl) OT.out GR5.out).store (TT.out.2.2 0 _ rfl) (fun z hz hlt hf => ?_)).store ((TT.out.put 0 _ (by simp)).2.2 1 _ rfl) (fun z h => by cases h))
          obtain rfl : g' = z := by simpa [Value.ownBlock] using hz
          rcases GL5.out with h | h
          · exact hf.2.2.1 _ (TB1.out.2.2 0 _ rfl) h
          · omega
      · by_cases hq2 : 1 < q
        · have z7 : (1 : Int) < (q : Int) := by omega
          go_enter Try.func23, Try.ntmps23
          go_wp2_with fail
          go_quiet (fail)
          obtain ⟨w1, hw1⟩ : ∃ w1, w1 = w.drewN nq := ⟨_, rfl⟩
          have b01 : Below w.heap.size w w1 := by rw [hw1]; exact below_drewN (Below.refl _ _) _
          rw [← hw1]
          clear hw1 a0 a1 af
          have B01 := Lib.hid b01
          have tb1 := TB.out.later b01
          have s0 := tb1.2.2 0 _ rfl
          have s1 := tb1.2.2 1 _ rfl
          have sf := tb1.2.1
          have zT1 := tb1.1
          have TB1 := Lib.hid tb1
          clear tb1 b01
          have FN : Hid (t.fin true = ⟨t.done ++ [(t.now.take (t.now.length - 1), true)], [], t.pos⟩) := Lib.hid (fin_of (finL_eq TL.out.1 HC.out) (by rw [TL.out.2]; exact hq2))
          have PL : Hid (PLn w1 Bd w1.heap.size (.slice (some ⟨g, 0, none⟩) q c0) (t.now.take (t.now.length - 1))) := Lib.hid (PT.out w1 B01.out)
          have OD1 := Lib.hid (own_later OD.out B01.out)
          have NI1 : Hid (NoInt w1 (.slice pd nd cd)) := Lib.hid (fun z hz j u hu => by
            rw [B01.out.cell (p := ⟨z, j, none⟩) (OD.out.lt z hz).2] at hu
            exact NI.out z hz j u hu)
          have SP1 : Hid (∀ j, j < t.done.length → ∃ p n c, cs[j * 2]? = some (.slice p n c) ∧ cs[j * 2 + 1]? = some (.bool (t.done.getD j ([], false)).2) ∧ PLn w1 Bd Bn (.slice p n c) (t.done.getD j ([], false)).1) := Lib.hid (fun j hj => by
            obtain ⟨p, n, c, e1, e2, e3⟩ := SP.out j hj
            exact ⟨p, n, c, e1, e2, e3.below (B01.out.mono h3) (Nat.le_refl _)⟩)
          have H31 : Hid (Bn ≤ w1.heap.size) := Lib.hid (Nat.le_trans h3 B01.out.size)
          have HB1 : Hid (Bd ≤ w1.heap.size) := Lib.hid (Nat.le_trans h2 H31.out)
          have OT : Hid ((Value.slice pd nd cd).ownBlock ≠ some T) := Lib.hid (own_ne OD.out h1)
          go_wp2_with (at_builtin; go_loud (refine wpList_nia (w0 := w1) rfl (.tmp 39) (.tmp 43) 22 rfl Bd 56 i0 (.agg #[.slice none 0 0, .bool false]) 2 32 [.slice (some ⟨g, 0, none⟩) q c0, .bool true] Try.underlying22 hi hz0 hz1 hz2 rfl rfl (by decide) _ _ _ rfl OD1.out rfl (by simp [Value.oneCell']) ?c1 ?c2 HB1.out NI1.out ni2 ni2 ?_))
          case c1 => unfold maxLen; omega
          case c2 => omega
          intro g' cap' w5 ow5 hb5 gr5 ni5 gl5
          have T5 := TB1.out.grown gr5 OT.out
          have r0 := T5.2.2 0 _ rfl
          have r1 := T5.2.2 1 _ rfl
          have rf := T5.2.1
          have TT := Lib.hid T5
          have OW5 := Lib.hid ow5
          have GR5 := Lib.hid gr5
          have NI5 := Lib.hid ni5
          have GL5 := Lib.hid gl5
          clear T5 ow5 hb5 gr5 ni5 gl5 s0 s1 sf
          go_wp2_with fail
          refine bodyPost_end (results_none rfl _ _ _) rfl ⟨rfl, w5.heap.size, ?_, ?_⟩
          · exact TrS.fin_yes h1 h2 H31.out TT.out CSL.out OW5.out GR5.out NI5.out NI1.out SP1.out PL.out FN.out
          · refine (Frm.of_below zT B01.out).trans (((Frm.grown zT1 (TB1.out.2.2 0 _ rfl) (Or.inl rfl) OT.out GR5.out).store (TT.out.2.2 0 _ rfl) (fun z hz hlt hf => ?_)).store ((TT.out.put 0 _ (by simp)).2.2 1 _ rfl) (fun z h => by cases h))
            obtain rfl : g' = z := by simpa [Value.ownBlock] using hz
            rcases GL5.out with h | h
            · exact hf.2.2.1 _ (TB1.out.2.2 0 _ rfl) h
            · omega
        · have z7 : ¬ (1 : Int) < (q : Int) := by omega
          go_enter Try.func23, Try.ntmps23
          go_wp2_with fail
          go_quiet (fail)
          obtain ⟨w1, hw1⟩ : ∃ w1, w1 = w.drewN nq := ⟨_, rfl⟩
          have b01 : Below w.heap.size w w1 := by rw [hw1]; exact below_drewN (Below.refl _ _) _
          rw [← hw1]
          clear hw1 a0 a1 af
          have B01 := Lib.hid b01
          have tb1 := TB.out.later b01
          have s0 := tb1.2.2 0 _ rfl
          have s1 := tb1.2.2 1 _ rfl
          have sf := tb1.2.1
          have zT1 := tb1.1
          have TB1 := Lib.hid tb1
          clear tb1 b01
          have FN : Hid (t.fin true = ⟨t.done, [], t.pos⟩) := Lib.hid (fin_not (finL_eq TL.out.1 HC.out) (by rw [TL.out.2]; exact hq2))
          go_wp2_with fail
          refine bodyPost_end (results_none rfl _ _ _) rfl ⟨rfl, Bn, ?_, ?_⟩
          · exact TrS.fin_no (vd := .slice pd nd cd) ⟨_, _, _, rfl⟩ h1 h2 h3 HD.out TB1.out B01.out FN.out
          · exact (Frm.of_below zT B01.out).store (TB1.out.2.2 1 _ rfl) (fun z h => by cases h)
  · have hs : ¬ 1 < t.now.length := by omega
    have z1 : decide ((1 : Int) < (n : Int)) = false := decide_eq_false (by omega)
    have z3 : ¬ (1 : Int) < (n : Int) := by omega
    clear own hn
    cases c
    · go_enter Try.func23, Try.ntmps23
      go_wp2_with fail
      go_quiet (fail)
      obtain ⟨w1, hw1⟩ : ∃ w1, w1 = w.drewN nq := ⟨_, rfl⟩
      have b01 : Below w.heap.size w w1 := by rw [hw1]; exact below_drewN (Below.refl _ _) _
      rw [← hw1]
      clear hw1 a0 a1 af
      have B01 := Lib.hid b01
      have tb1 := TB.out.later b01
      have s0 := tb1.2.2 0 _ rfl
      have s1 := tb1.2.2 1 _ rfl
      have sf := tb1.2.1
      have zT1 := tb1.1
      have TB1 := Lib.hid tb1
      clear tb1 b01
      have FN : Hid (t.fin false = ⟨t.done, [], t.pos⟩) := Lib.hid (fin_not (finL_short _ hs) hs)
      go_wp2_with fail
      refine bodyPost_end (results_none rfl _ _ _) rfl ⟨rfl, Bn, ?_, ?_⟩
      · exact TrS.fin_no (vd := .slice pd nd cd) ⟨_, _, _, rfl⟩ h1 h2 h3 HD.out TB1.out B01.out FN.out
      · exact (Frm.of_below zT B01.out).store (TB1.out.2.2 1 _ rfl) (fun z h => by cases h)
    · clear z1 z3
      have h01 : n = 0 ∨ n = 1 := by omega
      clear hn1 HN
      rcases h01 with rfl | rfl
      all_goals
        go_enter Try.func23, Try.ntmps23
        go_wp2_with fail
        go_quiet (fail)
        obtain ⟨w1, hw1⟩ : ∃ w1, w1 = w.drewN nq := ⟨_, rfl⟩
        have b01 : Below w.heap.size w w1 := by rw [hw1]; exact below_drewN (Below.refl _ _) _
        rw [← hw1]
        clear hw1 a0 a1 af
        have B01 := Lib.hid b01
        have tb1 := TB.out.later b01
        have s0 := tb1.2.2 0 _ rfl
        have s1 := tb1.2.2 1 _ rfl
        have sf := tb1.2.1
        have zT1 := tb1.1
        have TB1 := Lib.hid tb1
        clear tb1 b01
        have FN : Hid (t.fin true = ⟨t.done, [], t.pos⟩) := Lib.hid (fin_not (finL_short _ hs) hs)
        go_wp2_with fail
        refine bodyPost_end (results_none rfl _ _ _) rfl ⟨rfl, Bn, ?_, ?_⟩
        · exact TrS.fin_no (vd := .slice pd nd cd) ⟨_, _, _, rfl⟩ h1 h2 h3 HD.out TB1.out B01.out FN.out
        · exact (Frm.of_below zT B01.out).store (TB1.out.2.2 1 _ rfl) (fun z h => by cases h)
end Go.Proofs.Ythglgempbdaikaa
