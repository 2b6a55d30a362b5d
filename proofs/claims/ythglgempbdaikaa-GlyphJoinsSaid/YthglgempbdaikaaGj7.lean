/- Contract of glyph.Set. -/
import Derived.Test.YthglgempbdaikaaGj4
import Derived.Test.YthglgempbdaikaaGj6
namespace Go.Proofs.Ythglgempbdaikaa
open Go.RowKit

/-- a string's bytes -/
def byt (s : ByteArray) (k : Nat) : Int := ((s.data.getD k 0).toNat : Int)
theorem byt_rng (s : ByteArray) (k : Nat) : 0 ≤ byt s k ∧ byt s k ≤ 255 := by
  have := (s.data.getD k 0).toNat_lt
  unfold byt
  omega
theorem byt_at (s : ByteArray) (k : Nat) (h : k < s.size) : ((s[k]'h).toNat : Int) = byt s k := by
  have h2 : k < s.data.size := h
  show ((s.data[k]'h2).toNat : Int) = ((s.data.getD k 0).toNat : Int)
  rw [Array.getD_eq_getD_getElem?, Array.getElem?_eq_getElem h2]
  rfl
/-- a slice of these steps -/
def StL (w : World) (v : Value) (l : List (Nat → Int)) : Prop := Sts w v l.length (fun j => l.getD j (fun _ => 0))
theorem StL.later {w w1 : World} {v : Value} {l : List (Nat → Int)} (h : StL w v l) (hb : Below w.heap.size w w1) : StL w1 v l := Sts.later h hb
theorem StL.nil (w : World) : StL w (.slice none 0 0) [] := ⟨none, 0, rfl, by simp, fun h => by simp at h⟩
theorem rowQ_get (l : List (Nat → Int)) (j t : Nat) (h : j < l.length) (ht : t < 7) : (rowQ l)[j * 7 + t]? = some (.int .i64 (l.getD j (fun _ => 0) t)) := by
  induction l generalizing j with
  | nil => simp at h
  | cons s l ih =>
    have e2 : rowQ (s :: l) = stL s ++ rowQ l := by simp [rowQ]
    rw [e2]
    cases j with
    | zero =>
      have h7 : t = 0 ∨ t = 1 ∨ t = 2 ∨ t = 3 ∨ t = 4 ∨ t = 5 ∨ t = 6 := by omega
      rcases h7 with rfl | rfl | rfl | rfl | rfl | rfl | rfl <;> simp [stL]
    | succ j =>
      have := ih j (by simpa using h)
      rw [List.getElem?_append_right (by simp; omega)]
      have e3 : (j + 1) * 7 + t - (stL s).length = j * 7 + t := by simp; omega
      rw [e3]
      simpa using this
theorem StL.of_owns {w : World} {B : Nat} {v : Value} {l : List (Nat → Int)} (h : w.ownsRow B 59 7 v l.length (rowQ l)) (hl : l.length ≤ 100000) : StL w v l := by
  rcases h.2 with ⟨hv, h0⟩ | ⟨g, cap, cur, hv, _⟩
  · exact ⟨none, 0, by rw [hv, h0], by omega, fun h => by omega⟩
  · refine ⟨some ⟨g, 0, none⟩, cap, hv, by omega, fun _ => ⟨g, 0, rfl, fun j hj t ht => ?_⟩⟩
    have hc := h.cells (g := g) (by rw [hv]; rfl) (j * 7 + t) _ (rowQ_get l j t hj ht)
    have hadd : ∀ i, (⟨g, 0, none⟩ : Addr).add i = ⟨g, 0 + i, none⟩ := by intro i; unfold Addr.add; split <;> simp_all
    rw [hadd] at hc
    have e : 0 + j * 7 + t = 0 + (j * 7 + t) := by omega
    rw [e]
    exact hc
def SetPost (er : Int) (l : List (Nat → Int)) (w : World) (e : Ending) (w' : World) : Prop := Below w.heap.size w w' ∧ ∃ p c, e = .returned (.tuple #[.slice p l.length c, .int .i64 er]) ∧ l.length ≤ c ∧ StL w' (.slice p l.length c) l
theorem FrmS.below {w w' : World} {S B : Nat} (h : FrmS w w' S) (hf : ∀ g, g < B → FreS w S g) : Below B w w' :=
  ⟨h.os, h.tape, h.output, h.size, fun g hg => (h.block g (hf g hg)).1⟩
set_option maxRecDepth 100000 in
set_option maxHeartbeats 6400000 in
theorem set_any (v : Value) (fn : Nat) (G : Nat → Gl) (s : ByteArray) (e : SE) (w : World) (h : FontV w v fn G) (hs : s.size ≤ 281474976710656) :
    Calls Try.prog 18 #[v, .string s, .int .i64 e.size, .agg #[.int .i64 e.ax, .int .i64 e.ay]] w (SetPost (setE e fn G (byt s) s.size) (setL e fn G (byt s) s.size) w) := by
  have HF := Lib.hid h
  have SE1 : Hid (setE e fn G (byt s) s.size = if badE e = true then 2 else (runK e fn G (byt s) s.size).err) := Lib.hid rfl
  have SL1 : Hid (setL e fn G (byt s) s.size = if setE e fn G (byt s) s.size = 0 then (runK e fn G (byt s) s.size).out else []) := Lib.hid rfl
  have BAD : Hid (badE e = !(decide (1 ≤ e.size ∧ e.size ≤ 65536) && fits e.ax e.ay)) := Lib.hid rfl
  obtain ⟨a, cap, rfl, hn, _⟩ := h
  obtain ⟨w1, hw1⟩ : ∃ w1, w1 = w.alloc (.cells #[.int .i64 e.ax, .int .i64 e.ay] 42) := ⟨_, rfl⟩
  have X1 : Hid (BxAt w1 w.heap.size [.int .i64 e.ax, .int .i64 e.ay]) := Lib.hid (by rw [hw1]; exact BxAt.new w _ _)
  have B1 : Hid (Below w.heap.size w w1) := Lib.hid (by rw [hw1]; exact below_alloc _ _)
  have WA := Lib.hid hw1
  have x0 := X1.out.2.2 0 _ rfl
  have x1 := X1.out.2.2 1 _ rfl
  have ES := Lib.hid (sized_any e.size w1)
  have EF := Lib.hid (fits_any e.ax e.ay w1)
  clear hw1
  by_cases hsz : 1 ≤ e.size ∧ e.size ≤ 65536
  · have EZ := Lib.hid (show decide (1 ≤ e.size ∧ e.size ≤ 65536) = true from decide_eq_true hsz)
    rw [EZ.out] at ES BAD
    cases hfit : fits e.ax e.ay
    · rw [hfit] at EF BAD
      have e1 : setE e fn G (byt s) s.size = 2 := by rw [SE1.out, if_pos (by rw [BAD.out]; rfl)]
      have e2 : setL e fn G (byt s) s.size = [] := by rw [SL1.out, if_neg (by rw [e1]; decide)]
      rw [e1, e2]
      go_enter Try.func18, Try.ntmps18
      go_wp2_with fail
      rw [← WA.out]
      refine ES.out.mono ?_
      rintro en w2 ⟨rfl, rfl⟩
      go_wp2_with fail
      refine EF.out.mono ?_
      rintro en w3 ⟨rfl, hw3⟩
      have B3 : Hid (Below w.heap.size w w3) := Lib.hid (by rw [hw3]; exact bthen B1.out (below_alloc _ _))
      clear hw3
      go_wp2_with fail
      refine bodyPost_ret (v := .tuple #[.slice none 0 0, .int .i64 2]) ?_ rfl ⟨B3.out, _, _, rfl, by simp, StL.nil _⟩
      simp [results, Try.results18, go_sem]
    · rw [hfit] at EF BAD
      have hbad : badE e = false := by rw [BAD.out]; rfl
      have SE2 : Hid (setE e fn G (byt s) s.size = (runK e fn G (byt s) s.size).err) := Lib.hid (by rw [SE1.out, if_neg (by rw [hbad]; simp)])
      have HFIT := Lib.hid hfit
      clear hbad hfit SE1 BAD
      go_enter Try.func18, Try.ntmps18
      go_wp2_with fail
      rw [← WA.out]
      refine ES.out.mono ?_
      rintro en w2 ⟨rfl, rfl⟩
      go_wp2_with fail
      refine EF.out.mono ?_
      rintro en w3 ⟨rfl, hw3⟩
      have B3 : Hid (Below w.heap.size w w3) := Lib.hid (by rw [hw3]; exact bthen B1.out (below_alloc _ _))
      have X3 := X1.out.later (show Below w1.heap.size w1 w3 by rw [hw3]; exact below_alloc _ _)
      have y0 := X3.2.2 0 _ rfl
      have y1 := X3.2.2 1 _ rfl
      clear hw3 X3 x0 x1
      go_wp2_with fail
      obtain ⟨w4, hw4⟩ : ∃ w4, w4 = w3.alloc (.cells #[.int .i64 e.size, .int .i64 e.ax, .int .i64 e.ay, .int .i64 0, .slice none 0 0] 76) := ⟨_, rfl⟩
      obtain ⟨S, hS⟩ : ∃ S, S = w3.heap.size := ⟨_, rfl⟩
      rw [← hw4, ← hS]
      have b4 : Below w3.heap.size w3 w4 := by rw [hw4]; exact below_alloc _ _
      have B4 := Lib.hid (bthen B3.out b4)
      have HS : Hid (w.heap.size ≤ S) := Lib.hid (by rw [hS]; exact B3.out.size)
      have S4x : BxAt w4 S (stC e 0 (.slice none 0 0)) := by rw [hw4, hS]; exact BxAt.new w3 _ _
      have S4 : Hid (SetS w4 S (S + 1) e 0 []) := Lib.hid ⟨none, 0, 0, S4x, by omega, S4x.1, World.ownsRow_nil _ _ _ _⟩
      have FRE : Hid (∀ g, g < w.heap.size → FreS w4 S g) := Lib.hid (fun g hg => ⟨Nat.lt_of_lt_of_le hg B4.out.size, by have := HS.out; omega, fun v hv e => by
        rw [S4x.2.2 4 _ rfl] at hv
        obtain rfl := Option.some.inj hv
        cases e⟩)
      clear hw4 hS b4 S4x y0 y1 ES EF
      obtain ⟨n, hns⟩ : ∃ n, n = s.size := ⟨_, rfl⟩
      have NS := Lib.hid hns
      rw [← hns] at SE2 SL1 hs ⊢
      clear hns
      go_loopw [28] (fun i wr => ∃ k : Nat, k ≤ n ∧ i = .int .i64 k ∧ (runK e fn G (byt s) k).err = 0 ∧ SetS wr S (S + 1) e (runK e fn G (byt s) k).pen (runK e fn G (byt s) k).out ∧ FrmS w4 wr S) (fun i _ => n - (intOf i).toNat)
      case atStart => exact ⟨0, by omega, rfl, rfl, S4.out, FrmS.refl _ _⟩
      case round =>
        obtain ⟨k, hk, rfl, herr, hset, hfr⟩ := hrel
        have ER := Lib.hid herr
        have SK := Lib.hid hset
        have FR := Lib.hid hfr
        have BK := Lib.hid (B4.out.trans (hfr.below FRE.out))
        obtain ⟨pen1, pen2, outl⟩ := run_pen herr
        clear herr hset hfr
        by_cases hlt : k < n
        · have RE : Hid (byteE e fn G (runK e fn G (byt s) k) (byt s k) ≠ 0 → (runK e fn G (byt s) n).err = byteE e fn G (runK e fn G (byt s) k) (byt s k)) := Lib.hid (fun h => run_err ER.out hlt h)
          have RN : Hid (byteE e fn G (runK e fn G (byt s) k) (byt s k) = 0 → runK e fn G (byt s) (k + 1) = lettR e (runK e fn G (byt s) k) (getG fn G (byt s k))) := Lib.hid (fun h => run_next ER.out h)
          have BE : Hid (byteE e fn G (runK e fn G (byt s) k) (byt s k) = if getE fn G (byt s k) ≠ 0 then getE fn G (byt s k) else lettE e (runK e fn G (byt s) k) (getG fn G (byt s k))) := Lib.hid rfl
          obtain ⟨hb1, hb2⟩ := byt_rng s k
          have GA := Lib.hid (get_any (.slice a fn cap) fn G (byt s k) w wr ⟨hb1, hb2⟩ HF.out BK.out)
          have hk0 : (0 : Int) ≤ (k : Int) := by omega
          have hk3 : (k : Int) < (n : Int) := by omega
          have hkd : k < s.data.size := by have := NS.out; show k < s.size; omega
          have BD : Hid (byt s k = ((s.data.getD k 0).toNat : Int)) := Lib.hid rfl
          go_wp2_with fail
          simp only [byt_at]
          refine GA.out.mono ?_
          rintro en w5 ⟨hb5, p, c, rfl, hg⟩
          obtain ⟨r, hr⟩ : ∃ r, r = runK e fn G (byt s) k := ⟨_, rfl⟩
          have HR9 := Lib.hid hr
          obtain ⟨ge, hge⟩ : ∃ ge, ge = getE fn G (byt s k) := ⟨_, rfl⟩
          obtain ⟨gl, hgl⟩ : ∃ gl, gl = getG fn G (byt s k) := ⟨_, rfl⟩
          rw [← hr] at RE RN BE SK pen1 pen2 outl
          rw [← hge] at BE hg ⊢
          rw [← hgl] at BE RN hg ⊢
          have HG := Lib.hid hg
          obtain ⟨w6, hw6⟩ : ∃ w6, w6 = w5.alloc (.cells #[.int .i64 gl.code, .int .i64 gl.adv, .slice p gl.n c] 78) := ⟨_, rfl⟩
          obtain ⟨Q, hQ⟩ : ∃ Q, Q = w5.heap.size := ⟨_, rfl⟩
          have b6 : Below wr.heap.size wr w6 := by rw [hw6]; exact bthen hb5 (below_alloc _ _)
          have F6 : Hid (FrmS w4 w6 S) := Lib.hid (FR.out.trans (FrmS.of_below SK.out.lt b6))
          have S6 := Lib.hid (SK.out.later b6)
          have Q6 : Hid (BxAt w6 Q [.int .i64 gl.code, .int .i64 gl.adv, .slice p gl.n c]) := Lib.hid (by rw [hw6, hQ]; exact BxAt.new w5 _ _)
          have W6 := Lib.hid (And.intro hw6 hQ)
          obtain ⟨be, hbe⟩ : ∃ be, be = byteE e fn G r (byt s k) := ⟨_, rfl⟩
          rw [← hbe] at RE RN BE
          clear hr hge hgl hg hw6 hQ b6 hbe hb5
          by_cases hg0 : ge = 0
          · obtain ⟨hmay, hst⟩ := HG.out hg0
            have BE2 : Hid (be = lettE e r gl) := Lib.hid (by rw [BE.out, if_neg (by rw [hg0]; simp)])
            have BW6 := Lib.hid (B4.out.trans (F6.out.below FRE.out))
            have STL : Hid (0 < gl.n → ∃ b off, p = some ⟨b, off, none⟩ ∧ FreS w6 S b ∧ ∀ j, j < gl.n → ∀ t, t < 7 → w6.cell? ⟨b, off + j * 7 + t, none⟩ = some (.int .i64 (gl.F j t))) := Lib.hid (fun h0 => by
              obtain ⟨aa, cc, hv, _, hcc⟩ := hst
              simp only [Value.slice.injEq] at hv
              obtain ⟨rfl, _, _⟩ := hv
              obtain ⟨b, off, hb, hp⟩ := hcc h0
              have hblt := World.block_lt_of_cell? w _ (hp 0 h0 0 (by omega))
              exact ⟨b, off, hb, (F6.out.block b (FRE.out b hblt)).2, fun j hj t ht => cell_later BW6.out (hp j hj t ht)⟩)
            have LA := Lib.hid (letter_any S (S + 1) e r gl p c w6 S6.out outl ⟨pen1, pen2⟩ ⟨by omega, hsz.2⟩ HFIT.out hmay STL.out)
            subst hg0
            obtain ⟨le, hle⟩ : ∃ le, le = lettE e r gl := ⟨_, rfl⟩
            have HLE := Lib.hid hle
            rw [← hle] at BE2
            clear hmay hst BE hle HG
            obtain ⟨code, hcode⟩ : ∃ z, z = gl.code := ⟨_, rfl⟩
            obtain ⟨adv, hadv⟩ : ∃ z, z = gl.adv := ⟨_, rfl⟩
            obtain ⟨gn, hgn⟩ : ∃ z, z = gl.n := ⟨_, rfl⟩
            rw [← hcode, ← hadv, ← hgn] at LA W6 Q6 ⊢
            clear hcode hadv hgn STL
            have q0 := Q6.out.2.2 0 _ rfl
            have q1 := Q6.out.2.2 1 _ rfl
            have q2 := Q6.out.2.2 2 _ rfl
            go_wp2_with fail
            rw [← W6.out.1]
            refine LA.out.mono ?_
            rintro en w7 ⟨rfl, hfr7, hs7⟩
            rw [← HLE.out] at hs7 ⊢
            have F7 := Lib.hid (F6.out.trans hfr7)
            have S7 := Lib.hid hs7
            have B7 := Lib.hid (B4.out.trans (F7.out.below FRE.out))
            clear hfr7 hs7 q0 q1 q2
            by_cases hl0 : le = 0
            · have RN2 := Lib.hid (RN.out (by rw [BE2.out]; exact hl0))
              have S8 := Lib.hid (S7.out hl0)
              subst hl0
              have E8 : Hid ((runK e fn G (byt s) (k + 1)).err = 0) := Lib.hid (by rw [RN2.out]; rfl)
              clear RE RN S7
              go_wp2_with fail
              refine ⟨⟨k + 1, by omega, by go_num, E8.out, by rw [RN2.out]; exact S8.out, F7.out⟩, by (first | (simp [intOf]; done) | (simp [intOf]; omega) | (simp only [intOf]; omega))⟩
            · have RE2 := Lib.hid (RE.out (by rw [BE2.out]; exact hl0))
              have d0 : (le != 0) = true := by simpa using hl0
              have e1 : setE e fn G (byt s) n = le := by rw [SE2.out, RE2.out, BE2.out]
              have e2 : setL e fn G (byt s) n = [] := by rw [SL1.out, if_neg (by rw [e1]; exact hl0)]
              have E12 := Lib.hid (And.intro e1 e2)
              clear RE RN e1 e2 S7
              go_wp2_with fail
              refine bodyPost_ret (v := .tuple #[.slice none 0 0, .int .i64 le]) ?_ rfl ?_
              · simp [results, Try.results18, go_sem]
              · rw [E12.out.1, E12.out.2]
                exact ⟨B7.out, _, _, rfl, by simp, StL.nil _⟩
          · have BE2 : Hid (be = ge) := Lib.hid (by rw [BE.out, if_pos hg0])
            have RE2 := Lib.hid (RE.out (by rw [BE2.out]; exact hg0))
            have d0 : (ge == 0) = false := by simpa using hg0
            have d1 : (ge != 0) = true := by simpa using hg0
            have e1 : setE e fn G (byt s) n = ge := by rw [SE2.out, RE2.out, BE2.out]
            have e2 : setL e fn G (byt s) n = [] := by rw [SL1.out, if_neg (by rw [e1]; exact hg0)]
            have E12 := Lib.hid (And.intro e1 e2)
            have B7 := Lib.hid (B4.out.trans (F6.out.below FRE.out))
            obtain ⟨code, hcode⟩ : ∃ z, z = gl.code := ⟨_, rfl⟩
            obtain ⟨adv, hadv⟩ : ∃ z, z = gl.adv := ⟨_, rfl⟩
            obtain ⟨gn, hgn⟩ : ∃ z, z = gl.n := ⟨_, rfl⟩
            rw [← hcode, ← hadv, ← hgn] at W6 ⊢
            clear RE RN e1 e2 BE hcode hadv hgn HG Q6
            go_wp2_with fail
            rw [← W6.out.1]
            refine bodyPost_ret (v := .tuple #[.slice none 0 0, .int .i64 ge]) ?_ rfl ?_
            · simp [results, Try.results18, go_sem]
            · rw [E12.out.1, E12.out.2]
              exact ⟨B7.out, _, _, rfl, by simp, StL.nil _⟩
        · obtain rfl : k = n := by omega
          have e1 : setE e fn G (byt s) k = 0 := by rw [SE2.out, ER.out]
          have e2 : setL e fn G (byt s) k = (runK e fn G (byt s) k).out := by rw [SL1.out, if_pos e1]
          obtain ⟨p, nn, c, hbx, h1, h2, hown⟩ := SK.out
          have hnc : nn = (runK e fn G (byt s) k).out.length ∧ nn ≤ c := by
            rcases hown.2 with ⟨hv, h0⟩ | ⟨_, cap, _, hv, _, _, hcap, _⟩
            · simp only [Value.slice.injEq] at hv
              omega
            · simp only [Value.slice.injEq] at hv
              omega
          obtain ⟨rfl, hnc2⟩ := hnc
          have SL := Lib.hid (StL.of_owns hown (by omega))
          have HNC := Lib.hid hnc2
          have E12 := Lib.hid (And.intro e1 e2)
          have k4 := hbx.2.2 4 _ rfl
          have zS := hbx.1
          clear e1 e2 hbx hown SE2 SL1
          go_wp2_with fail
          refine bodyPost_ret (v := .tuple #[.slice p (runK e fn G (byt s) k).out.length c, .int .i64 0]) ?_ rfl ?_
          · simp [results, Try.results18, go_sem]
          · first
              | rw [← NS.out, E12.out.1, E12.out.2]
              | rw [E12.out.1, E12.out.2]
            exact ⟨BK.out, _, _, rfl, HNC.out, SL.out⟩
  · have EZ := Lib.hid (show decide (1 ≤ e.size ∧ e.size ≤ 65536) = false from decide_eq_false hsz)
    rw [EZ.out] at ES BAD
    have e1 : setE e fn G (byt s) s.size = 2 := by rw [SE1.out, if_pos (by rw [BAD.out]; rfl)]
    have e2 : setL e fn G (byt s) s.size = [] := by rw [SL1.out, if_neg (by rw [e1]; decide)]
    rw [e1, e2]
    go_enter Try.func18, Try.ntmps18
    go_wp2_with fail
    rw [← WA.out]
    refine ES.out.mono ?_
    rintro en w2 ⟨rfl, rfl⟩
    go_wp2_with fail
    refine bodyPost_ret (v := .tuple #[.slice none 0 0, .int .i64 2]) ?_ rfl ⟨B1.out, _, _, rfl, by simp, StL.nil _⟩
    simp [results, Try.results18, go_sem]
end Go.Proofs.Ythglgempbdaikaa
