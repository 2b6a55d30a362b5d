/- The setter's memory; contract of its step. -/
import Derived.Test.YthglgempbdaikaaGj2
namespace Go.Proofs.Ythglgempbdaikaa
open Go.RowKit

def FreS (w : World) (S g : Nat) : Prop := g < w.heap.size ∧ g ≠ S ∧ ∀ v, w.cell? ⟨S, 4, none⟩ = some v → v.ownBlock ≠ some g
structure FrmS (w w' : World) (S : Nat) : Prop where
  os : w'.os = w.os
  tape : w'.tape = w.tape
  output : w'.output = w.output
  size : w.heap.size ≤ w'.heap.size
  block : ∀ g, FreS w S g → w'.heap[g]? = w.heap[g]? ∧ FreS w' S g
theorem FrmS.refl (w : World) (S : Nat) : FrmS w w S := ⟨rfl, rfl, rfl, Nat.le_refl _, fun _ h => ⟨rfl, h⟩⟩
theorem FrmS.trans {w w1 w2 : World} {S : Nat} (h : FrmS w w1 S) (k : FrmS w1 w2 S) : FrmS w w2 S :=
  ⟨k.os.trans h.os, k.tape.trans h.tape, k.output.trans h.output, Nat.le_trans h.size k.size, fun g hg => ⟨(k.block g (h.block g hg).2).1.trans (h.block g hg).1, (k.block g (h.block g hg).2).2⟩⟩
theorem FrmS.of_below {w w' : World} {S : Nat} (hS : S < w.heap.size) (hb : Below w.heap.size w w') : FrmS w w' S :=
  ⟨hb.os, hb.tape, hb.output, hb.size, fun g hg => ⟨hb.block g hg.1, Nat.lt_of_lt_of_le hg.1 hb.size, hg.2.1, fun v hv => hg.2.2 v (by rw [hb.cell (p := ⟨S, 4, none⟩) hS] at hv; exact hv)⟩⟩
theorem FrmS.store {w : World} {S k : Nat} {u : Value} {w0 : World} {x : Value} (hc : w.cell? ⟨S, k, none⟩ = some x) (h0 : FrmS w0 w S) (hu : ∀ z, u.ownBlock = some z → z < w0.heap.size → ¬ FreS w0 S z) : FrmS w0 (w.setCell ⟨S, k, none⟩ u) S := by
  refine ⟨h0.os, h0.tape, h0.output, by simpa using h0.size, fun g hg => ?_⟩
  obtain ⟨hb, hf⟩ := h0.block g hg
  refine ⟨(Below.heap_setCell _ _ _ _ hf.2.1).trans hb, by simpa using hf.1, hf.2.1, fun v hv => ?_⟩
  by_cases e : k = 4
  · subst e
    rw [World.cell?_setCell_same _ _ _ hc] at hv
    obtain rfl := Option.some.inj hv
    exact fun e2 => hu g e2 hg.1 hg
  · rw [World.cell?_setCell_other _ _ _ _ (by simp only [ne_eq, Addr.mk.injEq]; omega)] at hv
    exact hf.2.2 v hv
theorem FrmS.grown {w w' : World} {S : Nat} {v : Value} (hS : S < w.heap.size) (hv : w.cell? ⟨S, 4, none⟩ = some v) (hne : v.ownBlock ≠ some S) (hg : w.grownBy w' v.ownBlock) : FrmS w w' S := by
  have hbT : w'.heap[S]? = w.heap[S]? := hg.block S hS (fun e => hne e.symm)
  refine ⟨hg.os, hg.tape, hg.output, hg.size, fun g hf => ⟨hg.block g hf.1 (fun e => hf.2.2 v hv e.symm), Nat.lt_of_lt_of_le hf.1 hg.size, hf.2.1, fun u hu => hf.2.2 u ?_⟩⟩
  rw [World.cell?_of_block (w := w) (a := ⟨S, 4, none⟩) hbT] at hu
  exact hu
def rowQ (l : List (Nat → Int)) : List Value := l.flatMap stL
theorem rowQ_snoc (l : List (Nat → Int)) (s : Nat → Int) : rowQ l ++ stL s = rowQ (l ++ [s]) := by simp [rowQ]
/-- the setter in block S -/
def SetS (w : World) (S Bo : Nat) (e : SE) (pen : Int) (out : List (Nat → Int)) : Prop := ∃ p n c, BxAt w S (stC e pen (.slice p n c)) ∧ S < Bo ∧ Bo ≤ w.heap.size ∧ w.ownsRow Bo 59 7 (.slice p n c) out.length (rowQ out)
theorem SetS.later {w w1 : World} {S Bo : Nat} {e : SE} {pen : Int} {out : List (Nat → Int)} (h : SetS w S Bo e pen out) (hb : Below w.heap.size w w1) : SetS w1 S Bo e pen out := by
  obtain ⟨p, n, c, h1, h2, h3, h4⟩ := h
  exact ⟨p, n, c, h1.later hb, h2, Nat.le_trans h3 hb.size, own_later h4 hb⟩
theorem SetS.lt {w : World} {S Bo : Nat} {e : SE} {pen : Int} {out : List (Nat → Int)} (h : SetS w S Bo e pen out) : S < w.heap.size := by
  obtain ⟨p, n, c, h1, _⟩ := h
  exact h1.1
theorem Try.info59 : (Try.prog.info? 59).map (fun i => (i.zero, i.size, i.bytes)) = some (some (.agg #[.int .i64 0, .int .i64 0, .int .i64 0, .int .i64 0, .int .i64 0, .int .i64 0, .int .i64 0]), 7, 56) := by kernel_rfl
theorem Try.underlying28 : Try.prog.underlying 28 = some (.slice 59) := by kernel_rfl
theorem stepV_set (e : SE) (pen : Int) (s : Nat → Int) (k : Nat) (hk : k < 3) : ((stL (stepV e pen s k)).set (1 + k * 2) (.int .i64 (vX e pen (s (1 + 2 * k))))).set (1 + k * 2 + 1) (.int .i64 (vY e (s (2 + 2 * k)))) = stL (stepV e pen s (k + 1)) := by
  have h3 : k = 0 ∨ k = 1 ∨ k = 2 := by omega
  rcases h3 with rfl | rfl | rfl <;> simp [stepV]
theorem bx_pt {W : World} {Y : Nat} {e : SE} {pen : Int} {s : Nat → Int} {k : Nat} (h : BxAt W Y (stL (stepV e pen s k))) (hk : k < 3) {x y : Int} (hx : x = vX e pen (s (1 + 2 * k))) (hy : y = vY e (s (2 + 2 * k))) :
    BxAt ((W.setCell ⟨Y, 1 + k * 2, none⟩ (.int .i64 x)).setCell ⟨Y, 1 + k * 2 + 1, none⟩ (.int .i64 y)) Y (stL (stepV e pen s (k + 1))) := by
  have h1 := (h.put (1 + k * 2) (.int .i64 x) (by simp; omega)).put (1 + k * 2 + 1) (.int .i64 y) (by simp; omega)
  rw [hx, hy] at h1 ⊢
  rwa [stepV_set e pen s k hk] at h1
def StepPost (S Bo : Nat) (e : SE) (pen : Int) (s : Nat → Int) (out : List (Nat → Int)) (w : World) (en : Ending) (w' : World) : Prop :=
  en = .returned (.bool (stepO e pen s)) ∧ FrmS w w' S ∧ (stepO e pen s = true → SetS w' S Bo e pen (out ++ [stepM e pen s]))
set_option maxRecDepth 100000 in
set_option maxHeartbeats 6400000 in
theorem gstep_any (S Bo : Nat) (e : SE) (pen : Int) (out : List (Nat → Int)) (s : Nat → Int) (w : World) (hS : SetS w S Bo e pen out) (hl : out.length ≤ 1000) (hp : 0 ≤ pen ∧ pen ≤ 8388607) (hz : 0 ≤ e.size ∧ e.size ≤ 65536) (hf : fits e.ax e.ay = true) (hu : 0 ≤ usesI (s 0)) (hfs : fitsTo (sX s) (sY s) (usesN (s 0)) = true) :
    Calls Try.prog 44 #[.pointer (some ⟨S, 0, none⟩), .agg #[.int .i64 (s 0), .int .i64 (s 1), .int .i64 (s 2), .int .i64 (s 3), .int .i64 (s 4), .int .i64 (s 5), .int .i64 (s 6)]] w (StepPost S Bo e pen s out w) := by
  obtain ⟨i0, hi, hz0, hz1, hz2⟩ := info_parts Try.info59
  obtain ⟨X, hX⟩ : ∃ X, X = w.heap.size := ⟨_, rfl⟩
  obtain ⟨w1, hw1⟩ : ∃ w1, w1 = (w.alloc (.cells #[.int .i64 (s 0), .int .i64 (s 1), .int .i64 (s 2), .int .i64 (s 3), .int .i64 (s 4), .int .i64 (s 5), .int .i64 (s 6)] 59)).alloc (.cells #[.int .i64 (s 0), .int .i64 0, .int .i64 0, .int .i64 0, .int .i64 0, .int .i64 0, .int .i64 0] 59) := ⟨_, rfl⟩
  have X1 : Hid (BxAt w1 X (stL s)) := Lib.hid (by rw [hw1, hX]; exact bx_a2 w _ _ _)
  have Y1 : Hid (BxAt w1 (X + 1) (stL (stepV e pen s 0))) := Lib.hid (by rw [hw1, hX]; exact bx_b w _ _ _)
  have B1 : Hid (Below w.heap.size w w1) := Lib.hid (by rw [hw1]; exact bel2 _ _ _)
  have WA := Lib.hid (And.intro hw1 hX)
  have HS := Lib.hid hS
  have US := Lib.hid (fun W => uses_any (s 0) W)
  have UN : Hid (usesN (s 0) = (usesI (s 0)).toNat) := Lib.hid rfl
  have UL := (usesI_le (s 0)).2
  have SO : Hid (stepO e pen s = okTo e pen s (usesN (s 0))) := Lib.hid rfl
  have SM : Hid (stepM e pen s = stepV e pen s (usesN (s 0))) := Lib.hid rfl
  have FS := Lib.hid hfs
  have PT := Lib.hid (st_pts X1.out)
  have HF := Lib.hid hf
  clear hw1 hX hS hfs hf
  obtain ⟨s0, hs0⟩ : ∃ x, x = s 0 := ⟨_, rfl⟩
  have x0 := X1.out.2.2 0 _ rfl
  rw [← hs0] at UN UL US SO SM FS hu x0 WA ⊢
  obtain ⟨u, hu2⟩ : ∃ u, u = usesI s0 := ⟨_, rfl⟩
  rw [← hu2] at UN UL US hu
  obtain ⟨n, hn⟩ : ∃ n, n = usesN s0 := ⟨_, rfl⟩
  rw [← hn] at UN SO SM FS
  obtain ⟨m, rfl⟩ : ∃ m : Nat, u = (m : Int) := ⟨u.toNat, by omega⟩
  have em : n = m := by rw [UN.out]; simp
  subst em
  have hm3 : n ≤ 3 := by omega
  have HN := Lib.hid hn
  have HS0 := Lib.hid hs0
  clear hs0 hu2 hn UL hu UN
  obtain ⟨s1, hs1⟩ : ∃ x, x = s 1 := ⟨_, rfl⟩
  obtain ⟨s2, hs2⟩ : ∃ x, x = s 2 := ⟨_, rfl⟩
  obtain ⟨s3, hs3⟩ : ∃ x, x = s 3 := ⟨_, rfl⟩
  obtain ⟨s4, hs4⟩ : ∃ x, x = s 4 := ⟨_, rfl⟩
  obtain ⟨s5, hs5⟩ : ∃ x, x = s 5 := ⟨_, rfl⟩
  obtain ⟨s6, hs6⟩ : ∃ x, x = s 6 := ⟨_, rfl⟩
  rw [← hs1, ← hs2, ← hs3, ← hs4, ← hs5, ← hs6] at WA ⊢
  clear hs1 hs2 hs3 hs4 hs5 hs6
  go_enter Try.func44, Try.ntmps44
  go_wp2_with fail
  rw [← WA.out.1, ← WA.out.2]
  refine (US.out w1).mono ?_
  rintro en w1 ⟨rfl, rfl⟩
  go_wp2_with fail
  go_loopw [15] (fun i wr => ∃ k : Nat, k ≤ n ∧ i = .int .i64 k ∧ okTo e pen s k = true ∧ BxAt wr (X + 1) (stL (stepV e pen s k)) ∧ BxAt wr X (stL s) ∧ Below w.heap.size w wr) (fun i _ => n - (intOf i).toNat)
  case atStart => exact ⟨0, by omega, rfl, rfl, Y1.out, X1.out, B1.out⟩
  case round =>
    obtain ⟨k, hk, rfl, hok, hy, hx, hb⟩ := hrel
    have OK := Lib.hid hok
    have YY := Lib.hid hy
    have XX := Lib.hid hx
    have B := Lib.hid hb
    clear hok hy hx hb
    by_cases hlt : k < n
    · obtain ⟨c0, c1⟩ := st_pts XX.out k (by omega)
      have y0 := YY.out
      have hff := fits_rng (fitsTo_at (k := k) hlt FS.out)
      obtain ⟨p, nn, c, hbx, h1, h2, hown⟩ := HS.out.later B.out
      have PA := Lib.hid (point_any S e pen (sX s k) (sY s k) (.slice p nn c) wr hbx (by omega) hff.1 hff.2 hz HF.out)
      have OX : Hid (okTo e pen s (k + 1) = (okTo e pen s k && okP e pen (sX s k) (sY s k))) := Lib.hid rfl
      have OL : Hid (okP e pen (sX s k) (sY s k) = false → okTo e pen s n = false) := Lib.hid (fun h => okTo_lt hlt h)
      have PX : Hid (∀ W, BxAt W (X + 1) (stL (stepV e pen s k)) → BxAt ((W.setCell ⟨X + 1, 1 + k * 2, none⟩ (.int .i64 (vX e pen (sX s k)))).setCell ⟨X + 1, 1 + k * 2 + 1, none⟩ (.int .i64 (vY e (sY s k)))) (X + 1) (stL (stepV e pen s (k + 1)))) := Lib.hid (fun W hW => bx_pt hW (by omega) rfl rfl)
      obtain ⟨x, hx⟩ : ∃ x, x = sX s k := ⟨_, rfl⟩
      obtain ⟨y, hy⟩ : ∃ y, y = sY s k := ⟨_, rfl⟩
      rw [← hx] at c0 PA OX OL PX
      rw [← hy] at c1 PA OX OL PX
      obtain ⟨qx, hqx⟩ : ∃ q, q = vX e pen x := ⟨_, rfl⟩
      obtain ⟨qy, hqy⟩ : ∃ q, q = vY e y := ⟨_, rfl⟩
      rw [← hqx, ← hqy] at PA PX
      obtain ⟨ok, hok⟩ : ∃ o, o = okP e pen x y := ⟨_, rfl⟩
      rw [← hok] at PA OX OL
      have hk0 : (0 : Int) ≤ (k : Int) := by omega
      have hk3 : (k : Int) < (n : Int) := by omega
      have hk4 : k < 3 := by omega
      have hk5 : (k : Int) < 3 := by omega
      have h2B := B.out.size
      clear hx hy hqx hqy hok hff hbx hown y0
      go_wp2_with fail
      refine PA.out.mono ?_
      rintro en w3 ⟨hb3, x', y', rfl, hxy⟩
      have XY := Lib.hid hxy
      have B3 := Lib.hid hb3
      clear hxy hb3
      cases ok
      · have OF : Hid (stepO e pen s = false) := Lib.hid (by rw [SO.out]; exact OL.out rfl)
        have FR : Hid (FrmS w (w3.alloc (.cells #[.int .i64 x', .int .i64 y'] 42)) S) := Lib.hid (FrmS.of_below HS.out.lt (bthen (bthen B.out B3.out) (below_alloc _ _)))
        go_wp2_with fail
        go_ret
        exact ⟨by rw [OF.out]; rfl, FR.out, fun h => by rw [OF.out] at h; cases h⟩
      · obtain ⟨rfl, rfl⟩ := XY.out rfl
        have Y3 := YY.out.later B3.out
        have X3 := Lib.hid (XX.out.later B3.out)
        have B4 := Lib.hid (bthen B.out B3.out)
        have Y3H := Lib.hid Y3
        have yf := Y3.2.1
        have zY := Y3.1
        obtain ⟨v0, hv0⟩ : ∃ v0, w3.cell? ⟨X + 1, 1 + k * 2, none⟩ = some v0 := ⟨_, Y3.2.2 (1 + k * 2) _ (List.getElem?_eq_getElem (by simp; omega))⟩
        obtain ⟨v1, hv1⟩ : ∃ v1, w3.cell? ⟨X + 1, 1 + k * 2 + 1, none⟩ = some v1 := ⟨_, Y3.2.2 (1 + k * 2 + 1) _ (List.getElem?_eq_getElem (by simp; omega))⟩
        have OK1 : Hid (okTo e pen s (k + 1) = true) := Lib.hid (by rw [OX.out, OK.out]; rfl)
        have Y5 := Lib.hid (PX.out w3 Y3)
        have HX1 : Hid (w.heap.size ≤ X + 1) := Lib.hid (by rw [WA.out.2]; omega)
        have X5 : Hid (BxAt ((w3.setCell ⟨X + 1, 1 + k * 2, none⟩ (.int .i64 x')).setCell ⟨X + 1, 1 + k * 2 + 1, none⟩ (.int .i64 y')) X (stL s)) := Lib.hid ⟨by simpa using X3.out.1, fun j => by rw [World.frozen?_setCell, World.frozen?_setCell]; exact X3.out.2.1 j, fun j u hu => by
          rw [World.cell?_setCell_other _ _ _ _ (by simp only [ne_eq, Addr.mk.injEq]; omega), World.cell?_setCell_other _ _ _ _ (by simp only [ne_eq, Addr.mk.injEq]; omega)]
          exact X3.out.2.2 j u hu⟩
        have B5 : Hid (Below w.heap.size w ((w3.setCell ⟨X + 1, 1 + k * 2, none⟩ (.int .i64 x')).setCell ⟨X + 1, 1 + k * 2 + 1, none⟩ (.int .i64 y'))) := Lib.hid ((B4.out.setCell (p := ⟨X + 1, 1 + k * 2, none⟩) HX1.out _).setCell (p := ⟨X + 1, 1 + k * 2 + 1, none⟩) HX1.out _)
        clear Y3 PX OX OL
        go_wp2_with fail
        refine ⟨⟨k + 1, by omega, by go_num, OK1.out, Y5.out.later (below_alloc _ _), X5.out.later (below_alloc _ _), bthen B5.out (below_alloc _ _)⟩, by (first | (simp [intOf]; done) | (simp [intOf]; omega) | (simp only [intOf]; omega))⟩
    · obtain rfl : k = n := by omega
      have OT : Hid (stepO e pen s = true) := Lib.hid (by rw [SO.out, OK.out])
      have YM : BxAt wr (X + 1) (stL (stepM e pen s)) := by rw [SM.out]; exact YY.out
      obtain ⟨p, nn, c, hbx, h1, h2, hown⟩ := HS.out.later B.out
      have SZ := HS.out.lt
      have hn : nn = out.length := by
        rcases hown.2 with ⟨hv, h0⟩ | ⟨_, _, _, hv, _⟩
        · simp only [Value.slice.injEq] at hv; omega
        · simp only [Value.slice.injEq] at hv; omega
      subst hn
      obtain ⟨t0, ht0⟩ : ∃ t, t = stepM e pen s 0 := ⟨_, rfl⟩
      obtain ⟨t1, ht1⟩ : ∃ t, t = stepM e pen s 1 := ⟨_, rfl⟩
      obtain ⟨t2, ht2⟩ : ∃ t, t = stepM e pen s 2 := ⟨_, rfl⟩
      obtain ⟨t3, ht3⟩ : ∃ t, t = stepM e pen s 3 := ⟨_, rfl⟩
      obtain ⟨t4, ht4⟩ : ∃ t, t = stepM e pen s 4 := ⟨_, rfl⟩
      obtain ⟨t5, ht5⟩ : ∃ t, t = stepM e pen s 5 := ⟨_, rfl⟩
      obtain ⟨t6, ht6⟩ : ∃ t, t = stepM e pen s 6 := ⟨_, rfl⟩
      have TT : Hid (rowQ out ++ [.int .i64 t0, .int .i64 t1, .int .i64 t2, .int .i64 t3, .int .i64 t4, .int .i64 t5, .int .i64 t6] = rowQ (out ++ [stepM e pen s])) := Lib.hid (by rw [← rowQ_snoc, ht0, ht1, ht2, ht3, ht4, ht5, ht6])
      have y0 := YM.2.2 0 _ rfl
      have y1 := YM.2.2 1 _ rfl
      have y2 := YM.2.2 2 _ rfl
      have y3 := YM.2.2 3 _ rfl
      have y4 := YM.2.2 4 _ rfl
      have y5 := YM.2.2 5 _ rfl
      have y6 := YM.2.2 6 _ rfl
      rw [← ht0] at y0
      rw [← ht1] at y1
      rw [← ht2] at y2
      rw [← ht3] at y3
      rw [← ht4] at y4
      rw [← ht5] at y5
      rw [← ht6] at y6
      clear ht0 ht1 ht2 ht3 ht4 ht5 ht6
      have k4 := hbx.2.2 4 _ rfl
      have kf := hbx.2.1
      have zS := hbx.1
      have HBX := Lib.hid hbx
      have zY := YM.1
      have own2 := hown
      have TB := Lib.hid hbx
      clear hbx hown YM
      go_wp2_with fail
      go_region_law (go_loud (refine step_append_lies _ rfl (.tmp 38) (.tmp 40) 28 rfl Bo 59 i0 (.agg #[.int .i64 0, .int .i64 0, .int .i64 0, .int .i64 0, .int .i64 0, .int .i64 0, .int .i64 0]) 7 56 Try.underlying28 hi hz0 hz1 hz2 rfl (by decide) _ out.length _ (by rfl) (World.ownsRow.alloc (w := wr.drew) own2.drew _) ⟨wr.heap.size, 0, none⟩ 1 1 [.int .i64 t0, .int .i64 t1, .int .i64 t2, .int .i64 t3, .int .i64 t4, .int .i64 t5, .int .i64 t6] (by rfl) rfl (by exact news_at wr.drew _ 59) (by simp [Value.oneCell']) (by omega) (by unfold maxLen; omega) (by omega) (by simp; omega) (wr.heap.size + 1) (by simp) ?_); intro g' cap' w5 own5 gr5 hg5 lt5; have T5 := ((show BxAt wr.drew S _ from TB.out).later (below_alloc _ _)).grown gr5 (own_ne own2 (by omega)); have F5 := Lib.hid (((FrmS.of_below zS ((Below.refl _ wr).drew)).trans (FrmS.of_below (w := wr.drew) zS (below_alloc wr.drew _))).trans (FrmS.grown (by simp; omega) ((cell_later (below_alloc wr.drew _) (show wr.drew.cell? ⟨S, 4, none⟩ = _ from k4))) (own_ne own2 (by omega)) gr5)); have OW5 := Lib.hid own5; have G5 := Lib.hid hg5; have GS := Lib.hid gr5.size; have m4 := T5.2.2 4 _ rfl; have mf := T5.2.1; have T55 := Lib.hid T5; clear own5 gr5 hg5 T5)
      all_goals
        go_wp2_with fail
        go_ret
        refine ⟨by rw [OT.out]; rfl, ?_, fun _ => ?_⟩
        · refine (FrmS.of_below SZ B.out).trans (F5.out.store m4 (fun z hz hlt hf => ?_))
          obtain rfl : g' = z := by simpa [Value.ownBlock] using hz
          rcases G5.out with h | h
          · exact hf.2.2 _ k4 h
          · omega
        · refine ⟨_, _, _, T55.out.put 4 _ (by simp), h1, ?_, ?_⟩
          · have := GS.out; simp at this ⊢; omega
          · have hlen : (out ++ [stepM e pen s]).length = out.length + 1 := by simp
            rw [hlen, ← TT.out]
            exact ownsRow_setCell_below OW5.out (a := ⟨S, 4, none⟩) (show S < Bo by omega) _
end Go.Proofs.Ythglgempbdaikaa
