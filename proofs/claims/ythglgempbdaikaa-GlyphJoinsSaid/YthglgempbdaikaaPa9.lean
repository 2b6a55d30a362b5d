/- Contract of path.Trace. -/
import Derived.Test.YthglgempbdaikaaPa8
namespace Go.Proofs.Ythglgempbdaikaa
open Go.RowKit

/-- a slice of points -/
def LnV (w : World) (v : Value) (l : List Pt) : Prop := ∃ (a : Option Addr) (cap : Nat), v = .slice a l.length cap ∧ l.length ≤ 281474976710656 ∧ (0 < l.length → ∃ g off, a = some ⟨g, off, none⟩ ∧ PtAt w g off l.length (fun k => (l.getD k (0, 0)).1) (fun k => (l.getD k (0, 0)).2))
/-- a slice of lines -/
def Lns (w : World) (v : Value) (L : List (List Pt × Bool)) : Prop := ∃ (a : Option Addr) (cap : Nat), v = .slice a L.length cap ∧ L.length ≤ 281474976710656 ∧ (0 < L.length → ∃ g off, a = some ⟨g, off, none⟩ ∧ ∀ j, j < L.length → ∃ p n c, w.cell? ⟨g, off + j * 2, none⟩ = some (.slice p n c) ∧ w.cell? ⟨g, off + j * 2 + 1, none⟩ = some (.bool (L.getD j ([], false)).2) ∧ LnV w (.slice p n c) (L.getD j ([], false)).1)
theorem LnV.later {w w1 : World} {v : Value} {l : List Pt} (h : LnV w v l) (hb : Below w.heap.size w w1) : LnV w1 v l := by
  obtain ⟨a, cap, hv, hn, hc⟩ := h
  refine ⟨a, cap, hv, hn, fun h0 => ?_⟩
  obtain ⟨g, off, ha, hp⟩ := hc h0
  exact ⟨g, off, ha, hp.later hb⟩
theorem Lns.later {w w1 : World} {v : Value} {L : List (List Pt × Bool)} (h : Lns w v L) (hb : Below w.heap.size w w1) : Lns w1 v L := by
  obtain ⟨a, cap, hv, hn, hc⟩ := h
  refine ⟨a, cap, hv, hn, fun h0 => ?_⟩
  obtain ⟨g, off, ha, hp⟩ := hc h0
  refine ⟨g, off, ha, fun j hj => ?_⟩
  obtain ⟨p, n, c, h1, h2, h3⟩ := hp j hj
  exact ⟨p, n, c, cell_later hb h1, cell_later hb h2, h3.later hb⟩
theorem DRow.lns {w : World} {Bd Bn : Nat} {vd : Value} {L : List (List Pt × Bool)} (h : DRow w Bd Bn vd L) (hl : L.length ≤ 100000) (hs : ∀ j, j < L.length → (L.getD j ([], false)).1.length ≤ 100000) : Lns w vd L := by
  obtain ⟨cs, ho, hn, hlt, hsp⟩ := h
  rcases ho.2 with ⟨hv, h0⟩ | ⟨g, cap, cur, hv, hg, hh, _, _, _, htake⟩
  · exact ⟨none, 0, by rw [hv, h0], by omega, fun h => by omega⟩
  · refine ⟨some ⟨g, 0, none⟩, cap, hv, by omega, fun _ => ⟨g, 0, rfl, fun j hj => ?_⟩⟩
    obtain ⟨p, n, c, h1, h2, g2, off2, cap2, hv2, _, _, hp2⟩ := hsp j hj
    have hadd : ∀ i, (⟨g, 0, none⟩ : Addr).add i = ⟨g, 0 + i, none⟩ := by intro i; unfold Addr.add; split <;> simp_all
    have hc := ho.cells (g := g) (by rw [hv]; rfl) (j * 2) _ h1
    have hd := ho.cells (g := g) (by rw [hv]; rfl) (j * 2 + 1) _ h2
    rw [hadd] at hc hd
    exact ⟨p, n, c, hc, hd, _, cap2, hv2, by have := hs j hj; omega, fun _ => ⟨g2, off2, rfl, hp2⟩⟩
theorem Frm.below {w w' : World} {T B : Nat} (h : Frm w w' T) (hf : ∀ g, g < B → Fre w T g) : Below B w w' ∧ ∀ g, g < B → Fre w' T g :=
  ⟨⟨h.os, h.tape, h.output, h.size, fun g hg => (h.block g (hf g hg)).1⟩, fun g hg => (h.block g (hf g hg)).2⟩
theorem DRow.nil (w : World) (Bd Bn : Nat) : DRow w Bd Bn (.slice none 0 0) [] :=
  ⟨[], World.ownsRow_nil _ _ _ _, NoInt.nil w, fun g h => by simp [Value.ownBlock] at h, fun j hj => absurd hj (by simp)⟩
theorem TrS.new (w : World) : TrS (w.alloc (.cells #[.slice none 0 0, .slice none 0 0, .int .i64 0, .int .i64 0] 62)) w.heap.size (w.heap.size + 1) (w.heap.size + 1) ⟨[], [], (0, 0)⟩ := by
  refine ⟨.slice none 0 0, none, 0, 0, BxAt.new w [.slice none 0 0, .slice none 0 0, .int .i64 0, .int .i64 0] 62, ⟨none, 0, 0, rfl⟩, by omega, by omega, by simp, ?_, DRow.nil _ _ _⟩
  exact World.ownsRow_nil _ _ _ _
theorem Fre.new (w : World) (g : Nat) (hg : g < w.heap.size) : Fre (w.alloc (.cells #[.slice none 0 0, .slice none 0 0, .int .i64 0, .int .i64 0] 62)) w.heap.size g := by
  have b := BxAt.new w [.slice none 0 0, .slice none 0 0, .int .i64 0, .int .i64 0] 62
  refine ⟨by simp; omega, by omega, fun v hv e => ?_, fun v hv e => ?_⟩
  · rw [show ((w.alloc (.cells #[.slice none 0 0, .slice none 0 0, .int .i64 0, .int .i64 0] 62)).cell? ⟨w.heap.size, 0, none⟩ = some (.slice none 0 0)) from b.2.2 0 _ rfl] at hv
    obtain rfl := Option.some.inj hv
    cases e
  · rw [show ((w.alloc (.cells #[.slice none 0 0, .slice none 0 0, .int .i64 0, .int .i64 0] 62)).cell? ⟨w.heap.size, 1, none⟩ = some (.slice none 0 0)) from b.2.2 1 _ rfl] at hv
    obtain rfl := Option.some.inj hv
    cases e
/-- no line is longer than all that came -/
theorem fin_in (t : TS) (c : Bool) (M : Nat) (hn : t.now.length ≤ M) (hd : ∀ l ∈ t.done, l.1.length ≤ M) : ∀ l ∈ (t.fin c).done, l.1.length ≤ M := by
  have hf : (finL c t.now).length ≤ t.now.length := by
    unfold finL
    split
    · rw [List.length_take]; omega
    · exact Nat.le_refl _
  intro l hl
  unfold TS.fin at hl
  simp only at hl
  split at hl
  · rw [List.mem_append] at hl
    rcases hl with h | h
    · exact hd l h
    · obtain rfl : l = (finL c t.now, c) := by simpa using h
      exact Nat.le_trans hf hn
  · exact hd l hl
theorem step_in (t : TS) (s : Nat → Int) (M : Nat) (hn : t.now.length ≤ M) (hd : ∀ l ∈ t.done, l.1.length ≤ M) : ∀ l ∈ (t.step s).done, l.1.length ≤ M := by
  have a0 := (add_len (t.fin false) (s 1, s 2)).2
  have a1 := (add_len t (s 1, s 2)).2
  have c3 := (adds_len t (crvX 3 t.pos s) (crvY 3 t.pos s) (crvN 3 t.pos s)).2
  have c4 := (adds_len t (crvX 4 t.pos s) (crvY 4 t.pos s) (crvN 4 t.pos s)).2
  unfold TS.step TS.curve
  repeat' split
  · rw [a0]; exact fin_in t false M hn hd
  · rw [a1]; exact hd
  · rw [c3]; exact hd
  · rw [c4]; exact hd
  · exact fin_in t true M hn hd
  · exact hd
theorem trace_in (F : Nat → Nat → Int) (i M : Nat) (hM : 32 * i ≤ M) : ∀ l ∈ (traceT F i).done, l.1.length ≤ M := by
  induction i with
  | zero => intro l hl; cases hl
  | succ i ih => exact step_in _ _ M (by have := (trace_len F i).1; omega) (ih (by omega))
theorem traceL_ok (F : Nat → Nat → Int) (n : Nat) (hn : n ≤ 200) : (traceL F n).length ≤ 100000 ∧ ∀ j, j < (traceL F n).length → ((traceL F n).getD j ([], false)).1.length ≤ 100000 := by
  have h := trace_len F n
  have h2 := (fin_len (traceT F n) false).2
  refine ⟨by unfold traceL; omega, fun j hj => ?_⟩
  have hin := fin_in (traceT F n) false 100000 (by omega) (trace_in F n 100000 (by omega))
  rw [List.getD_eq_getElem?_getD, List.getElem?_eq_getElem hj]
  exact hin _ (List.getElem_mem hj)
def TracePost (F : Nat → Nat → Int) (n : Nat) (w : World) (e : Ending) (w' : World) : Prop :=
  Below w.heap.size w w' ∧ ((checkE F n ≠ 0 ∧ e = .returned (.tuple #[.slice none 0 0, .int .i64 (checkE F n)])) ∨ (checkE F n = 0 ∧ ∃ v, e = .returned (.tuple #[v, .int .i64 0]) ∧ Lns w' v (traceL F n)))
set_option maxRecDepth 100000 in
set_option maxHeartbeats 6400000 in
theorem trace_any (sv : Value) (n : Nat) (F : Nat → Nat → Int) (w : World) (h : Sts w sv n F) : Calls Try.prog 11 #[sv] w (TracePost F n w) := by
  have CK := Lib.hid (check_any sv n F w h)
  obtain ⟨a, cap, rfl, hn, hc⟩ := h
  have C := Lib.hid hc
  clear hc
  obtain ⟨ce, hce⟩ : ∃ ce, ce = checkE F n := ⟨_, rfl⟩
  rw [← hce] at CK
  have CE := Lib.hid hce
  have CB : Hid (ce = 0 → n ≤ 200) := Lib.hid (fun h0 => by
    rw [hce] at h0
    unfold checkE at h0
    split at h0
    · cases h0
    · omega)
  clear hce
  go_enter Try.func11, Try.ntmps11
  go_wp2_with fail
  refine CK.out.mono ?_
  rintro e w1 ⟨rfl, hb1⟩
  have B1 := Lib.hid hb1
  clear hb1
  by_cases h0 : ce = 0
  · have hn2 := CB.out h0
    have CE0 := Lib.hid h0
    subst h0
    go_wp2_with fail
    obtain ⟨w2, hw2⟩ : ∃ w2, w2 = w1.alloc (.cells #[.slice none 0 0, .slice none 0 0, .int .i64 0, .int .i64 0] 62) := ⟨_, rfl⟩
    rw [← hw2]
    obtain ⟨T, hT⟩ : ∃ T, T = w1.heap.size := ⟨_, rfl⟩
    rw [← hT]
    have T2 : Hid (TrS w2 T (T + 1) (T + 1) ⟨[], [], (0, 0)⟩) := Lib.hid (by rw [hw2, hT]; exact TrS.new w1)
    have F2 : Hid (∀ g, g < w.heap.size → Fre w2 T g) := Lib.hid (fun g hg => by rw [hw2, hT]; exact Fre.new w1 g (Nat.lt_of_lt_of_le hg B1.out.size))
    have B2 : Hid (Below w.heap.size w w2) := Lib.hid (by rw [hw2]; exact bthen B1.out (below_alloc _ _))
    clear hw2 hT
    go_loopw [15] (fun i wr => ∃ k : Nat, k ≤ n ∧ i = .int .i64 k ∧ (∃ Bn, TrS wr T (T + 1) Bn (traceT F k)) ∧ Below w.heap.size w wr ∧ ∀ g, g < w.heap.size → Fre wr T g) (fun i _ => n - (intOf i).toNat)
    case atStart => exact ⟨0, by omega, rfl, ⟨_, T2.out⟩, B2.out, F2.out⟩
    case round =>
      obtain ⟨k, hk, rfl, ⟨Bn, htr⟩, hb, hfre⟩ := hrel
      have TR := Lib.hid htr
      have B := Lib.hid hb
      have FR := Lib.hid hfre
      clear htr hb hfre
      have TL := trace_len F k
      by_cases hlt : k < n
      · obtain ⟨g, off, rfl, hp⟩ := C.out (by omega)
        have c : ∀ t, t < 7 → wr.cell? ⟨g, off + k * 7 + t, none⟩ = some (.int .i64 (F k t)) := fun t ht => cell_later B.out (hp k hlt t ht)
        have c0 := c 0 (by omega)
        have c1 := c 1 (by omega)
        have c2 := c 2 (by omega)
        have c3 := c 3 (by omega)
        have c4 := c 4 (by omega)
        have c5 := c 5 (by omega)
        have c6 := c 6 (by omega)
        rw [Nat.add_zero] at c0
        have ST : Hid (∀ W, TrS W T (T + 1) Bn (traceT F k) → Calls Try.prog 22 #[.pointer (some ⟨T, 0, none⟩), .agg #[.int .i64 (F k 0), .int .i64 (F k 1), .int .i64 (F k 2), .int .i64 (F k 3), .int .i64 (F k 4), .int .i64 (F k 5), .int .i64 (F k 6)]] W (FinPost T (T + 1) (traceT F (k + 1)) W)) := Lib.hid (fun W hW => step_any T (T + 1) Bn (traceT F k) (F k) W (by omega) (by omega) hW)
        obtain ⟨f0, hf0⟩ : ∃ x, x = F k 0 := ⟨_, rfl⟩
        obtain ⟨f1, hf1⟩ : ∃ x, x = F k 1 := ⟨_, rfl⟩
        obtain ⟨f2, hf2⟩ : ∃ x, x = F k 2 := ⟨_, rfl⟩
        obtain ⟨f3, hf3⟩ : ∃ x, x = F k 3 := ⟨_, rfl⟩
        obtain ⟨f4, hf4⟩ : ∃ x, x = F k 4 := ⟨_, rfl⟩
        obtain ⟨f5, hf5⟩ : ∃ x, x = F k 5 := ⟨_, rfl⟩
        obtain ⟨f6, hf6⟩ : ∃ x, x = F k 6 := ⟨_, rfl⟩
        rw [← hf0] at c0
        rw [← hf1] at c1
        rw [← hf2] at c2
        rw [← hf3] at c3
        rw [← hf4] at c4
        rw [← hf5] at c5
        rw [← hf6] at c6
        rw [← hf0, ← hf1, ← hf2, ← hf3, ← hf4, ← hf5, ← hf6] at ST
        clear hf0 hf1 hf2 hf3 hf4 hf5 hf6 hp c TL
        have hk0 : (0 : Int) ≤ (k : Int) := by omega
        have hk3 : (k : Int) < (n : Int) := by omega
        go_wp2_with fail
        obtain ⟨w3, hw3⟩ : ∃ w3, w3 = wr.alloc (.cells #[.int .i64 f0, .int .i64 f1, .int .i64 f2, .int .i64 f3, .int .i64 f4, .int .i64 f5, .int .i64 f6] 59) := ⟨_, rfl⟩
        rw [← hw3]
        have b3 : Below wr.heap.size wr w3 := by rw [hw3]; exact below_alloc _ _
        have B3 := Lib.hid b3
        clear hw3 c0 c1 c2 c3 c4 c5 c6 b3
        refine (ST.out w3 (TR.out.later B3.out)).mono ?_
        rintro e4 w4 ⟨rfl, Bn4, ht4, hf4⟩
        have T4 := Lib.hid ht4
        have FF := Lib.hid (((Frm.of_below TR.out.lt B3.out).trans hf4).below FR.out)
        clear ht4 hf4
        go_wp2_with fail
        refine ⟨⟨k + 1, by omega, by go_num, ⟨_, T4.out⟩, B.out.trans FF.out.1, FF.out.2⟩, by (first | (simp [intOf]; done) | (simp [intOf]; omega) | (simp only [intOf]; omega))⟩
      · obtain rfl : k = n := by omega
        have LN := Lib.hid (traceL_ok F k hn2)
        go_wp2_with fail
        refine (fin_any T (T + 1) Bn (traceT F k) false wr (by omega) (by omega) TR.out).mono ?_
        rintro e4 w4 ⟨rfl, Bn4, ⟨vd, p4, n4, c4, tb, ⟨pd, nd, cd, rfl⟩, _, _, _, _, hD⟩, hf4⟩
        have LL := Lib.hid (hD.lns LN.out.1 LN.out.2)
        have FF := Lib.hid (hf4.below FR.out)
        have t0 := tb.2.2 0 _ rfl
        clear hD hf4 tb
        go_wp2_with fail
        refine bodyPost_ret (v := .tuple #[.slice pd nd cd, .int .i64 0]) ?_ rfl ⟨B.out.trans FF.out.1, Or.inr ⟨CE.out.symm, _, rfl, LL.out⟩⟩
        simp [results, Try.results11, go_sem]
  · go_wp2_with fail
    refine bodyPost_ret (v := .tuple #[.slice none 0 0, .int .i64 ce]) ?_ rfl ⟨B1.out, Or.inl ⟨by rw [← CE.out]; exact h0, by rw [← CE.out]⟩⟩
    simp [results, Try.results11, go_sem]
end Go.Proofs.Ythglgempbdaikaa
