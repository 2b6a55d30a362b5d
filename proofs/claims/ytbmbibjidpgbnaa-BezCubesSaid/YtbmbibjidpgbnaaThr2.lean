/- Contract of affine.Through. -/
import Derived.Test.YtbmbibjidpgbnaaThr
namespace Go.Proofs.Ytbmbibjidpgbnaa
open Go.RowKit Go.Shelf
attribute [local go_sem] Oper.semAt_some

abbrev aX (m : Mp) (x y : Int) : Int := applyX m.a m.b m.c m.d m.e m.f x y
abbrev aY (m : Mp) (x y : Int) : Int := applyY m.a m.b m.c m.d m.e m.f x y
abbrev aE (m : Mp) (x y : Int) : Int := applyE m.a m.b m.c m.d m.e m.f x y
/-- a point by a row of maps, the first one of the row first -/
def goT : List Mp → Int → Int → Int × Int × Int
  | [], x, y => (x, y, 0)
  | m :: r, x, y => if aE m x y = 0 then goT r (aX m x y) (aY m x y) else (0, 0, aE m x y)
theorem goT_snoc {x y px py : Int} {pre : List Mp} (m : Mp) (h : goT pre x y = (px, py, 0)) : goT (pre ++ [m]) x y = if aE m px py = 0 then (aX m px py, aY m px py, 0) else (0, 0, aE m px py) := by
  induction pre generalizing x y with
  | nil => simp only [goT, Prod.mk.injEq] at h; obtain ⟨rfl, rfl, _⟩ := h; simp [goT]
  | cons k r ih =>
    simp only [List.cons_append, goT] at h ⊢
    by_cases e : aE k x y = 0
    · rw [if_pos e] at h ⊢; exact ih h
    · rw [if_neg e] at h; simp only [Prod.mk.injEq] at h; exact absurd h.2.2 e
theorem goT_stay {x y : Int} {pre : List Mp} (r : List Mp) (h : (goT pre x y).2.2 ≠ 0) : goT (pre ++ r) x y = goT pre x y := by
  induction pre generalizing x y with
  | nil => simp [goT] at h
  | cons k q ih =>
    simp only [List.cons_append, goT] at h ⊢
    by_cases e : aE k x y = 0
    · rw [if_pos e] at h ⊢; rw [if_pos e]; exact ih h
    · rw [if_neg e, if_neg e]

theorem Blk.put {W : World} {B D : Nat} {cs : Array Value} {t : TypeId} {o o' : Obj} (h : Blk W B cs t) (hD : W.heap[D]? = some o) (ho : o.isCells = false) : Blk (W.putObj D o') B cs t :=
  ((grownBy_putObj' W D o').block B h.lt (fun e => by cases e; rw [show W.heap[B]? = _ from h] at hD; cases hD; cases ho)).trans h
def pt (x y : Int) : Array Value := #[.int .i64 x, .int .i64 y]
/-- between two rounds -/
def TI (w : World) (x y : Int) (pre : List Mp) (W : World) : Prop :=
  ∃ px py, goT pre x y = (px, py, 0) ∧ Blk W (w.heap.size + 1 + 1 + 1) (pt px py) 25 ∧ Blk W (w.heap.size + 1) (pt 0 0) 25 ∧ Blk W (w.heap.size + 1 + 1) #[.int .i64 0] 26
/-- a round has returned -/
def TX (w : World) (x y : Int) (c : Code) (pre : List Mp) (W : World) : Prop :=
  c = .ret ∧ (goT pre x y).2.2 ≠ 0 ∧ (goT pre x y).1 = 0 ∧ (goT pre x y).2.1 = 0 ∧ Blk W (w.heap.size + 1) (pt 0 0) 25 ∧ Blk W (w.heap.size + 1 + 1) #[.int .i64 (goT pre x y).2.2] 26
theorem TI.own (w : World) (x y : Int) : Own (TI w x y) := fun s A B row hs hg hr => by
  obtain ⟨px, py, h1, h2, h3, h4⟩ := hs
  exact ⟨px, py, h1, Blk.own _ _ (fun (_ : Unit) => pt px py) () A B row h2 hg hr, Blk.own _ _ (fun (_ : Unit) => pt 0 0) () A B row h3 hg hr, Blk.own _ _ (fun (_ : Unit) => #[.int .i64 0]) () A B row h4 hg hr⟩
theorem TX.own (w : World) (x y : Int) (c : Code) : Own (TX w x y c) := fun s A B row hs hg hr => by
  obtain ⟨h0, h1, h2, h3, h4, h5⟩ := hs
  exact ⟨h0, h1, h2, h3, Blk.own _ _ (fun (_ : Unit) => pt 0 0) () A B row h4 hg hr, Blk.own _ _ (fun (_ : Unit) => #[.int .i64 (goT s x y).2.2]) () A B row h5 hg hr⟩

theorem KpB.put {n₀ Bs : Nat} {w : World} (hn : n₀ ≤ w.heap.size) (hs : Bs < w.heap.size) : ∀ (W : World) (l : Nat) (o o' : Obj), w.heap.size ≤ l → W.heap[l]? = some o → o.isCells = false → o.isWalk = false → KpB n₀ Bs W (W.putObj l o') := fun W l o o' h1 h2 h3 h4 =>
  ⟨belowK_b hn W l o o' h1 h2 h3 h4, fun _ => by
    have := (belowK_b (Nat.le_refl _) W l o o' h1 h2 h3 h4).block Bs hs
    exact this⟩

set_option maxRecDepth 100000 in
set_option maxHeartbeats 4000000 in
theorem through_any (a : Option Addr) (len cap : Nat) (ms : Nat → Mp) (x y : Int) (w : World) (hM : Maps w.heap.size w (.slice a len cap) len ms) :
    Calls Try.prog 26 #[.slice a len cap, .agg #[.int .i64 x, .int .i64 y]] w fun e W' =>
      e = .returned (.tuple #[.agg #[.int .i64 (goT (upto (rev len ms) len) x y).1, .int .i64 (goT (upto (rev len ms) len) x y).2.1], .int .i64 (goT (upto (rev len ms) len) x y).2.2]) ∧ Below w.heap.size w W' := by
  refine (callsIn_wide (n := 9)).1 ?_
  have hro : Fence.wide.round = none := rfl
  have h1 : 1 ≤ 9 := by omega
  refine callsIn_of_wp_marks Try.func26 rfl trivial ?_ hro
  simp only [Try.ntmps26, List.size_toArray, List.length_cons, List.length_nil, Nat.reduceAdd, Nat.reduceSub, Array.replicate_succ, Array.replicate_zero, List.push_toArray, List.append_toArray, List.nil_append, List.cons_append]
  gi_wp2_with (refine ⟨trivial, ?_⟩; gi_at_call 55; refine (back_in Fence.wide _ trivial hro _ _ _ _).mono ?_; rintro e w' ⟨rfl, rfl⟩)
  obtain ⟨W0, hW0⟩ : ∃ W0, ((((w.alloc (.cells #[.int .i64 x, .int .i64 y] 25)).alloc (.cells #[.int .i64 0, .int .i64 0] 25)).alloc (.cells #[.int .i64 0] 26)).alloc (.cells #[.int .i64 x, .int .i64 y] 25)).alloc (.cells #[.slice a len cap] 45) = W0 := ⟨_, rfl⟩
  have hB0 : Below w.heap.size w W0 := by rw [← hW0]; ((repeat' (first | with_reducible exact Below.refl _ _ | with_reducible assumption | with_reducible refine Below.drew ?_ | with_reducible refine Below.alloc ?_ ?_ _ | with_reducible refine Below.setCell ?_ ?_ _)) <;> (first | omega | (simp; done) | (simp; omega)))
  have hsz : W0.heap.size = w.heap.size + 5 := by rw [← hW0]; simp
  have b4 : Blk W0 (w.heap.size + 1) (pt 0 0) 25 := by
    rw [← hW0]; have := Blk.new (w.alloc (.cells #[.int .i64 x, .int .i64 y] 25)) (pt 0 0) 25; rw [World.size_alloc] at this
    exact ((this.alloc _).alloc _).alloc _
  have b5 : Blk W0 (w.heap.size + 1 + 1) #[.int .i64 0] 26 := by
    rw [← hW0]; have := Blk.new ((w.alloc (.cells #[.int .i64 x, .int .i64 y] 25)).alloc (.cells #[.int .i64 0, .int .i64 0] 25)) #[.int .i64 0] 26; rw [World.size_alloc, World.size_alloc] at this
    exact (this.alloc _).alloc _
  have b6 : Blk W0 (w.heap.size + 1 + 1 + 1) (pt x y) 25 := by
    rw [← hW0]; have := Blk.new (((w.alloc (.cells #[.int .i64 x, .int .i64 y] 25)).alloc (.cells #[.int .i64 0, .int .i64 0] 25)).alloc (.cells #[.int .i64 0] 26)) (pt x y) 25; rw [World.size_alloc, World.size_alloc, World.size_alloc] at this
    exact this.alloc _
  have bS : W0.cell? ⟨w.heap.size + 1 + 1 + 1 + 1, 0, none⟩ = some (.slice a len cap) := by
    rw [← hW0]
    have := Blk.new ((((w.alloc (.cells #[.int .i64 x, .int .i64 y] 25)).alloc (.cells #[.int .i64 0, .int .i64 0] 25)).alloc (.cells #[.int .i64 0] 26)).alloc (.cells #[.int .i64 x, .int .i64 y] 25)) #[.slice a len cap] 45
    rw [World.size_alloc, World.size_alloc, World.size_alloc, World.size_alloc] at this
    exact this.cell 0
  rw [hW0]
  clear hW0
  have hM0 : Maps w.heap.size W0 (.slice a len cap) len ms := hM.below hB0
  refine wpIn_rangeFunc_ownH hro h1 (gf := 71) (lb := #[.pointer (some ⟨w.heap.size + 1 + 1 + 1 + 1, 0, none⟩)]) (by rfl) trivial (enters_of Try.func71 (by kernel_rfl) rfl)
    (back_stops Fence.wide (9 - 1) trivial hro (by omega) (w.heap.size + 1 + 1 + 1 + 1) w.heap.size a len cap ms W0 (by omega) (by omega) bS hM0) KpB.trans (KpB.put (by omega) (by omega)) (Below.refl _ _) (fun _ => rfl)
    (fun pre W => TI w x y pre W ∧ Below w.heap.size w W)
    (fun c pre W => TX w x y c pre W ∧ Below w.heap.size w W)
    (OwnFrom.and (Own.from (TI.own w x y) _) (ownFrom_below (Nat.le_refl _) (by omega)))
    (fun c => OwnFrom.and (Own.from (TX.own w x y c) _) (ownFrom_below (Nat.le_refl _) (by omega)))
    ⟨⟨x, y, rfl, b6, b4, b5⟩, hB0⟩
    (fun m a' W => ∃ Bx, w.heap.size + 1 + 1 + 1 < Bx ∧ Blk W Bx #[.int .i64 m.a, .int .i64 m.b, .int .i64 m.c, .int .i64 m.d, .int .i64 m.e, .int .i64 m.f] 23 ∧
      a' = { tmps := #[.slice a len cap, .agg #[.int .i64 x, .int .i64 y], undef, .pointer (some ⟨w.heap.size, 0, none⟩), .pointer (some ⟨w.heap.size + 1, 0, none⟩), .pointer (some ⟨w.heap.size + 1 + 1, 0, none⟩), .pointer (some ⟨w.heap.size + 1 + 1 + 1, 0, none⟩),
        .pointer (some ⟨Bx, 0, none⟩), undef, undef, .agg #[.int .i64 x, .int .i64 y], .slice a len cap, .func (.func 71) #[] #[.pointer (some ⟨w.heap.size + 1 + 1 + 1 + 1, 0, none⟩)], m.v, undef, undef, undef, undef, undef, undef, undef, undef, undef, undef, undef, undef], defers := [] })
    (fun m a' _ X Y row hs hg hr => by obtain ⟨Bx, h1, h2, h3⟩ := hs; exact ⟨Bx, h1, Blk.own Bx 23 (fun (_ : Unit) => #[.int .i64 m.a, .int .i64 m.b, .int .i64 m.c, .int .i64 m.d, .int .i64 m.e, .int .i64 m.f]) () X Y row h2 hg (fun r e => (hr r e).2), h3⟩)
    ?assign ?body ?done ?stop
  case assign =>
    rintro l pre m W K ⟨⟨px, py, hg, c6, c4, c5⟩, hB1⟩ hK
    have K1 := Lib.hid hK
    have hlt : w.heap.size + 1 + 1 + 1 < W.heap.size := c6.lt
    clear hK
    gi_wp2
    exact K1.out _ _ ((KeepsOthers.alloc _ _).from _) (KpB.of_below ((Below.refl _ W).alloc (Nat.le_refl _) _) hB1.size) ⟨⟨px, py, hg, c6.alloc _, c4.alloc _, c5.alloc _⟩, hB1.alloc hB1.size _⟩ ⟨W.heap.size, hlt, Blk.new W _ _, rfl⟩
  case body =>
    rintro l pre m a' W hl ⟨r, hr⟩ ⟨⟨px, py, hg, c6, c4, c5⟩, hB1⟩ ⟨Bx, hBx, cx, rfl⟩ hlt
    obtain ⟨ma, mb, mc, md, me, mf⟩ := m
    have x0 := cx.cell 0
    have x1 := cx.cell 1
    have x2 := cx.cell 2
    have x3 := cx.cell 3
    have x4 := cx.cell 4
    have x5 := cx.cell 5
    have y0 := c6.cell 0
    have y1 := c6.cell 1
    simp [pt] at x0 x1 x2 x3 x4 x5 y0 y1
    have z6 := c6.lt
    have hsn := goT_snoc ⟨ma, mb, mc, md, me, mf⟩ hg
    have SN := Lib.hid hsn
    clear hsn hg
    by_cases hE : applyE ma mb mc md me mf px py = 0
    · gi_wp2_with (refine ⟨trivial, ?_⟩; gi_at_call 12; refine (CallsIn.inRound l (callsIn_wide.2 (apply_any _ _ _ _ _ _ _ _ _))).mono ?_; rintro e w1 ⟨rfl, hb1⟩; have k4 := c4.later hb1; have k5 := c5.later hb1; have k6 := c6.later hb1; have t0 := k6.cell 0; have t1 := k6.cell 1; have f0 := k6.frozen 0; have f1 := k6.frozen 1; simp [pt] at t0 t1; have z7 := hb1.size; have z8 := k6.lt)
      have e1 : goT (pre ++ [⟨ma, mb, mc, md, me, mf⟩]) x y = (applyX ma mb mc md me mf px py, applyY ma mb mc md me mf px py, 0) := by rw [SN.out]; exact if_pos hE
      have hbw := hB1.trans (hb1.mono hB1.size)
      exact ⟨(KeepsFrom.of_below hb1).trans ((((KeepsOthers.setCell _ _ _).trans (KeepsOthers.setCell _ _ _)).trans (KeepsOthers.alloc _ _)).from _),
        ((KpB.of_below hb1 hB1.size).trans ((KpB.setCell _ (by omega) (by omega) 0 _).trans (KpB.setCell _ (by omega) (by omega) 1 _))).trans (KpB.of_below ((Below.refl _ _).alloc (Nat.le_refl _) _) (by simp; omega)),
        ⟨_, _, e1, ((k6.set 0 _).set 1 _).alloc _, ((k4.other 0 (by omega) _).other 1 (by omega) _).alloc _, ((k5.other 0 (by omega) _).other 1 (by omega) _).alloc _⟩,
        ((hbw.setCell (p := ⟨w.heap.size + 1 + 1 + 1, 0, none⟩) (by show w.heap.size ≤ w.heap.size + 1 + 1 + 1; omega) _).setCell (p := ⟨w.heap.size + 1 + 1 + 1, 1, none⟩) (by show w.heap.size ≤ w.heap.size + 1 + 1 + 1; omega) _).alloc (by simp; omega) _⟩
    · gi_wp2_with (refine ⟨trivial, ?_⟩; gi_at_call 12; refine (CallsIn.inRound l (callsIn_wide.2 (apply_any _ _ _ _ _ _ _ _ _))).mono ?_; rintro e w1 ⟨rfl, hb1⟩; have k4 := c4.later hb1; have k5 := c5.later hb1; have t0 := k4.cell 0; have t1 := k4.cell 1; have t2 := k5.cell 0; have f0 := k4.frozen 0; have f1 := k4.frozen 1; have f2 := k5.frozen 0; simp [pt] at t0 t1 t2; have z7 := k4.lt; have z8 := k5.lt)
      have e1 : goT (pre ++ [⟨ma, mb, mc, md, me, mf⟩]) x y = (0, 0, applyE ma mb mc md me mf px py) := by rw [SN.out]; exact if_neg hE
      have hbw := hB1.trans (hb1.mono hB1.size)
      exact ⟨(KeepsFrom.of_below hb1).trans (((((KeepsOthers.setCell _ _ _).trans (KeepsOthers.setCell _ _ _)).trans (KeepsOthers.setCell _ _ _)).trans (KeepsOthers.alloc _ _)).from _),
        ⟨rfl, by rw [e1]; exact hE, by rw [e1], by rw [e1], (((k4.set 0 _).set 1 _).other 0 (by omega) _).alloc _, by rw [e1]; exact (((k5.other 0 (by omega) _).other 1 (by omega) _).set 0 _).alloc _⟩,
        (((hbw.setCell (p := ⟨w.heap.size + 1, 0, none⟩) (by show w.heap.size ≤ w.heap.size + 1; omega) _).setCell (p := ⟨w.heap.size + 1, 1, none⟩) (by show w.heap.size ≤ w.heap.size + 1; omega) _).setCell (p := ⟨w.heap.size + 1 + 1, 0, none⟩) (by show w.heap.size ≤ w.heap.size + 1 + 1; omega) _).alloc (by simp; omega) _⟩
  case done =>
    rintro D ys W hD rfl ⟨⟨px, py, hg, c6, c4, c5⟩, hB1⟩ hK
    have y0 := c6.cell 0
    have y1 := c6.cell 1
    have t0 := c4.cell 0
    have t1 := c4.cell 1
    have t2 := c5.cell 0
    have f0 := c4.frozen 0
    have f1 := c4.frozen 1
    have f2 := c5.frozen 0
    simp [pt] at y0 y1 t0 t1 t2
    have HG := Lib.hid hg
    clear hg
    gi_wp2
    have hK' := (((KeepsOthers.setCell W ⟨w.heap.size + 1, 0, none⟩ (.int .i64 px)).trans (KeepsOthers.setCell _ ⟨w.heap.size + 1, 1, none⟩ (.int .i64 py))).trans (KeepsOthers.setCell _ ⟨w.heap.size + 1 + 1, 0, none⟩ (.int .i64 0))).same D _ hK rfl
    have d4 := (((c4.set 0 (.int .i64 px)).set 1 (.int .i64 py)).other 0 (by omega : w.heap.size + 1 ≠ w.heap.size + 1 + 1) (.int .i64 0)).put (o' := .deferred none) hK' rfl
    have d5 := (((c5.other 0 (by omega : w.heap.size + 1 + 1 ≠ w.heap.size + 1) (.int .i64 px)).other 1 (by omega : w.heap.size + 1 + 1 ≠ w.heap.size + 1) (.int .i64 py)).set 0 (.int .i64 0)).put (o' := .deferred none) hK' rfl
    have r0 := d4.cell 0
    have r1 := d4.cell 1
    have r2 := d5.cell 0
    simp [pt] at r0 r1 r2
    refine ⟨by simp, .inl ⟨_, _, rfl, run_takeDeferred hK', ?_⟩⟩
    rw [HG.out]
    refine ⟨.tuple #[.agg #[.int .i64 px, .int .i64 py], .int .i64 0], ?_, rfl, (((hB1.setCell (p := ⟨w.heap.size + 1, 0, none⟩) (by show w.heap.size ≤ w.heap.size + 1; omega) _).setCell (p := ⟨w.heap.size + 1, 1, none⟩) (by show w.heap.size ≤ w.heap.size + 1; omega) _).setCell (p := ⟨w.heap.size + 1 + 1, 0, none⟩) (by show w.heap.size ≤ w.heap.size + 1 + 1; omega) _).trans (belowK_b (w := w) (Nat.le_refl _) _ D _ _ (by omega) hK' rfl rfl)⟩
    simp [results, Try.results26, go_sem, r0, r1, r2]
  case stop =>
    rintro D c pre W hD ⟨k, hk, rfl⟩ ⟨⟨rfl, h1, h2, h3, c4, c5⟩, hB1⟩ hK
    have HG := Lib.hid (And.intro h1 (And.intro h2 h3))
    clear h1 h2 h3
    gi_wp2
    obtain ⟨h1, h2, h3⟩ := HG.out
    have hall : goT (upto (rev len ms) len) x y = goT (upto (rev len ms) k) x y := by
      have e : upto (rev len ms) len = upto (rev len ms) k ++ ((List.range len).drop k).map (rev len ms) := by
        unfold upto
        conv => lhs; rw [← List.take_append_drop k (List.range len)]
        rw [List.map_append, List.take_range, Nat.min_eq_left hk]
      rw [e]; exact goT_stay _ h1
    rw [hall, h2, h3]
    have d4 := c4.put (o' := .deferred none) hK rfl
    have d5 := c5.put (o' := .deferred none) hK rfl
    have r0 := d4.cell 0
    have r1 := d4.cell 1
    have r2 := d5.cell 0
    simp [pt] at r0 r1 r2
    refine ⟨by simp, .inl ⟨_, _, rfl, run_takeDeferred hK, ?_⟩⟩
    refine ⟨.tuple #[.agg #[.int .i64 0, .int .i64 0], .int .i64 (goT (upto (rev len ms) k) x y).2.2], ?_, rfl, hB1.trans (belowK_b (w := w) (Nat.le_refl _) _ D _ _ (by omega) hK rfl rfl)⟩
    simp [results, Try.results26, go_sem, r0, r1, r2]
end Go.Proofs.Ytbmbibjidpgbnaa
