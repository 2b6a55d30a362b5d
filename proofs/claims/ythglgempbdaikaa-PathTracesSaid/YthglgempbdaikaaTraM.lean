/- The law PathTraces returns true at every input, and its arguments read afterwards as they did before; no condition. The frame of this text is after the kit's proof-skeleton.mjs. -/
import Derived.Test.YthglgempbdaikaaPc0
import Derived.Test.YthglgempbdaikaaPa6
import Derived.Test.YthglgempbdaikaaWhM
import Derived.Test.YthglgempbdaikaaFrM
import Derived.Test.YthglgempbdaikaaPc1
import Derived.Test.YthglgempbdaikaaPb0
import Derived.Test.YthglgempbdaikaaPb3
import Derived.Test.YthglgempbdaikaaRows
import Derived.Test.YthglgempbdaikaaOpnS
import Derived.SizedLaws
import Derived.WalkKit
import Derived.ProofKit
import Derived.OpenShut
import Derived.ShutString
import Derived.ChangeOld
import Derived.Below
namespace Go.Proofs.Ythglgempbdaikaa
open Go.RowKit

def ptsL (X Y : Nat → Int) (k : Nat) : List Pt := (List.range k).map fun j => (X j, Y j)
theorem ptsL_succ (X Y : Nat → Int) (k : Nat) : ptsL X Y (k + 1) = ptsL X Y k ++ [(X k, Y k)] := by simp [ptsL, List.range_succ]
theorem ptsL_len (X Y : Nat → Int) (k : Nat) : (ptsL X Y k).length = k := by simp [ptsL]
theorem ptsL_get (X Y : Nat → Int) (k j : Nat) (h : j < k) : (ptsL X Y k).getD j (0, 0) = (X j, Y j) := by
  simp [ptsL, List.getD_eq_getElem?_getD, h]
/-- the points of a step -/
def refP (p : Pt) (s : Nat → Int) : List Pt := if s 0 = 1 then [(s 1, s 2)] else if s 0 = 2 then [(s 1, s 2)] else if s 0 = 3 then ptsL (crvX 3 p s) (crvY 3 p s) (crvN 3 p s) else if s 0 = 4 then ptsL (crvX 4 p s) (crvY 4 p s) (crvN 4 p s) else []
theorem refP_len (p : Pt) (s : Nat → Int) : (refP p s).length ≤ 32 := by
  have h3 := crvN_le 3 p s
  have h4 := crvN_le 4 p s
  unfold refP
  repeat' split
  · simp
  · simp
  · rw [ptsL_len]; omega
  · rw [ptsL_len]; omega
  · simp
def lastP (l : List Pt) : Pt := l.getD (l.length - 1) (0, 0)
theorem lastP_snoc (l : List Pt) (p : Pt) : lastP (l ++ [p]) = p := by simp [lastP]
/-- without repeats -/
def ddK (l : List Pt) (k : Nat) : List Pt := if k = 0 ∨ l.getD k (0, 0) ≠ l.getD (k - 1) (0, 0) then [l.getD k (0, 0)] else []
def ddTo (l : List Pt) : Nat → List Pt
  | 0 => []
  | k + 1 => ddTo l k ++ ddK l k
def ddL (l : List Pt) : List Pt := ddTo l l.length
theorem ddTo_len (l : List Pt) (k : Nat) : (ddTo l k).length ≤ k := by
  induction k with
  | zero => exact Nat.le_refl _
  | succ k ih =>
    have : (ddK l k).length ≤ 1 := by unfold ddK; split <;> simp
    unfold ddTo
    rw [List.length_append]
    omega
theorem getD_app {l m : List Pt} {k : Nat} (h : k < l.length) : (l ++ m).getD k (0, 0) = l.getD k (0, 0) := by
  simp [List.getD_eq_getElem?_getD, List.getElem?_append_left h]
theorem ddTo_app (l m : List Pt) (k : Nat) (h : k ≤ l.length) : ddTo (l ++ m) k = ddTo l k := by
  induction k with
  | zero => rfl
  | succ k ih =>
    unfold ddTo
    rw [ih (by omega)]
    unfold ddK
    rw [getD_app (by omega), getD_app (by omega)]
theorem ddL_snoc (l : List Pt) (p : Pt) : ddL (l ++ [p]) = ddL l ++ (if l = [] ∨ p ≠ lastP l then [p] else []) := by
  unfold ddL
  rw [List.length_append]
  show ddTo (l ++ [p]) l.length ++ ddK (l ++ [p]) l.length = _
  rw [ddTo_app _ _ _ (Nat.le_refl _)]
  congr 1
  unfold ddK
  have e1 : (l ++ [p]).getD l.length (0, 0) = p := by simp
  rw [e1]
  by_cases hl : l = []
  · subst hl; simp
  · have h0 : 0 < l.length := List.length_pos_iff.2 hl
    rw [getD_app (by omega)]
    have h1 : ¬ l.length = 0 := by omega
    simp only [h1, hl, false_or]
    rfl
theorem ddL_nil {l : List Pt} : ddL l = [] ↔ l = [] := by
  constructor
  · intro h
    cases l with
    | nil => rfl
    | cons p r =>
      exfalso
      have key : ∀ k, ddTo (p :: r) (k + 1) ≠ [] := by
        intro k
        induction k with
        | zero => simp [ddTo, ddK]
        | succ k ih =>
          intro h2
          unfold ddTo at h2
          exact ih (List.append_eq_nil_iff.1 h2).1
      exact key r.length h
  · rintro rfl; rfl
/-- how far the reference has come -/
structure RS where
  out : List Ln
  now : List Pt
def lineO (l : List Pt) (c : Bool) : List Pt := finL c (ddL l)
def RS.fin (r : RS) (c : Bool) : RS := ⟨if 1 < (lineO r.now c).length then r.out ++ [(lineO r.now c, c)] else r.out, []⟩
def RS.pre (r : RS) (s : Nat → Int) : RS := if s 0 = 1 then r.fin false else if s 0 = 5 then r.fin true else r
def RS.go (r : RS) (s : Nat → Int) : RS := ⟨r.out, r.now ++ refP (lastP r.now) s⟩
def refT (F : Nat → Nat → Int) : Nat → RS
  | 0 => ⟨[], []⟩
  | i + 1 => ((refT F i).pre (F i)).go (F i)
theorem rs_fin_len (r : RS) (c : Bool) : (r.fin c).out.length ≤ r.out.length + 1 := by
  unfold RS.fin
  show (if _ then _ else _ : List Ln).length ≤ _
  split <;> simp
theorem refT_len (F : Nat → Nat → Int) (i : Nat) : (refT F i).now.length ≤ 32 * i ∧ (refT F i).out.length ≤ i := by
  induction i with
  | zero => exact ⟨Nat.le_refl _, Nat.le_refl _⟩
  | succ i ih =>
    have hp := refP_len (lastP ((refT F i).pre (F i)).now) (F i)
    have h1 : ((refT F i).pre (F i)).now.length ≤ 32 * i ∧ ((refT F i).pre (F i)).out.length ≤ i + 1 := by
      have f0 := rs_fin_len (refT F i) false
      have f1 := rs_fin_len (refT F i) true
      unfold RS.pre
      split
      · exact ⟨Nat.zero_le _, by omega⟩
      · split
        · exact ⟨Nat.zero_le _, by omega⟩
        · exact ⟨ih.1, by omega⟩
    unfold refT RS.go
    dsimp only
    rw [List.length_append]
    omega
def Rel (t : TS) (r : RS) : Prop := t.done = r.out ∧ t.now = ddL r.now ∧ (r.now ≠ [] → t.pos = lastP r.now)
theorem rel_add {t : TS} {o : List Ln} {l : List Pt} {p : Pt} (h : Rel t ⟨o, l⟩) : Rel (t.add p) ⟨o, l ++ [p]⟩ := by
  obtain ⟨h1, h2, h3⟩ := h
  dsimp only at h1 h2 h3
  refine ⟨h1, ?_, fun _ => ?_⟩
  · show (if t.now = [] ∨ p ≠ t.pos then t.now ++ [p] else t.now) = ddL (l ++ [p])
    have e : (ddL l = []) = (l = []) := propext ddL_nil
    rw [ddL_snoc, h2]
    simp only [e]
    by_cases hl : l = []
    · simp [hl]
    · rw [h3 hl]
      split <;> simp
  · show p = lastP (l ++ [p])
    rw [lastP_snoc]
theorem rel_adds {t : TS} {o : List Ln} {l : List Pt} {X Y : Nat → Int} (h : Rel t ⟨o, l⟩) (k : Nat) : Rel (t.adds X Y k) ⟨o, l ++ ptsL X Y k⟩ := by
  induction k with
  | zero => simpa [ptsL, TS.adds] using h
  | succ k ih =>
    rw [ptsL_succ, ← List.append_assoc]
    exact rel_add ih
theorem rel_fin {t : TS} {r : RS} {c : Bool} (h : Rel t r) : Rel (t.fin c) (r.fin c) := by
  obtain ⟨h1, h2, h3⟩ := h
  refine ⟨?_, rfl, fun h => absurd rfl h⟩
  unfold TS.fin RS.fin lineO
  dsimp only
  rw [h2, h1]
theorem rel_trace {F : Nat → Nat → Int} {n : Nat} (h : chk F n = 0) : ∀ i, i ≤ n → Rel (traceT F i) (refT F i) ∧ (beh F i = 0 ∨ beh F i = 5 ∨ (refT F i).now ≠ []) := by
  intro i hi
  induction i with
  | zero => exact ⟨⟨rfl, rfl, fun h => absurd rfl h⟩, Or.inl rfl⟩
  | succ i ih =>
    obtain ⟨h1, h2⟩ := ih (by omega)
    have hr := chk_at h (show i < n by omega)
    have hu := (right_fits hr).1
    have hord : F i 0 = 1 ∨ (refT F i).now ≠ [] := by
      by_cases e1 : F i 0 = 1
      · exact Or.inl e1
      · refine Or.inr ?_
        unfold rightE at hr
        split at hr
        · cases hr
        · split at hr
          · cases hr
          · rename_i hno
            rcases h2 with h2 | h2 | h2
            · exact absurd ⟨e1, Or.inl h2⟩ hno
            · exact absurd ⟨e1, Or.inr h2⟩ hno
            · exact h2
    show Rel ((traceT F i).step (F i)) (((refT F i).pre (F i)).go (F i)) ∧ (F i 0 = 0 ∨ F i 0 = 5 ∨ _)
    obtain ⟨r, he⟩ : ∃ r, r = refT F i := ⟨_, rfl⟩
    rw [← he] at h1 hord
    obtain ⟨t, ht⟩ : ∃ t, t = traceT F i := ⟨_, rfl⟩
    rw [← ht] at h1 ⊢
    obtain ⟨s, hs⟩ : ∃ s, s = F i := ⟨_, rfl⟩
    have es : refT F (i + 1) = ((refT F i).pre (F i)).go (F i) := rfl
    rw [es, ← he]
    rw [← hs] at hu hord ⊢
    clear he es ht
    obtain ⟨o, l⟩ := r
    dsimp only at hord
    rcases uses_of (s 0) with ⟨e, _⟩ | ⟨e, _⟩ | ⟨e, _⟩ | ⟨e, _⟩ | ⟨e, _⟩ | hneg
    · refine ⟨?_, Or.inr (Or.inr ?_)⟩
      · unfold TS.step RS.pre RS.go refP
        simp only [e]
        exact rel_add (rel_fin h1)
      · unfold RS.pre RS.go refP
        simp only [e]
        simp
    · have hl : l ≠ [] := hord.resolve_left (by omega)
      refine ⟨?_, Or.inr (Or.inr ?_)⟩
      · unfold TS.step RS.pre RS.go refP
        simp only [e]
        exact rel_add h1
      · unfold RS.pre RS.go refP
        simp only [e]
        simp
    · have hl : l ≠ [] := hord.resolve_left (by omega)
      have hp : t.pos = lastP l := h1.2.2 hl
      refine ⟨?_, Or.inr (Or.inr ?_)⟩
      · unfold TS.step RS.pre RS.go refP TS.curve
        simp only [e]
        have := rel_adds (X := crvX 3 t.pos s) (Y := crvY 3 t.pos s) h1 (crvN 3 t.pos s)
        rw [hp] at this ⊢
        exact this
      · unfold RS.pre RS.go
        simp only [e]
        simp [hl]
    · have hl : l ≠ [] := hord.resolve_left (by omega)
      have hp : t.pos = lastP l := h1.2.2 hl
      refine ⟨?_, Or.inr (Or.inr ?_)⟩
      · unfold TS.step RS.pre RS.go refP TS.curve
        simp only [e]
        have := rel_adds (X := crvX 4 t.pos s) (Y := crvY 4 t.pos s) h1 (crvN 4 t.pos s)
        rw [hp] at this ⊢
        exact this
      · unfold RS.pre RS.go
        simp only [e]
        simp [hl]
    · refine ⟨?_, Or.inr (Or.inl e)⟩
      unfold TS.step RS.pre RS.go refP
      simp only [e]
      have := rel_fin (c := true) h1
      simpa using this
    · omega
theorem ref_trace {F : Nat → Nat → Int} {n : Nat} (h : chk F n = 0) : ((refT F n).fin false).out = traceL F n :=
  (rel_fin (c := false) (rel_trace h n (Nat.le_refl _)).1).1.symm
/-! what it costs -/
def rcostK (s : Nat → Int) (p : Pt) : Nat := if s 0 = 1 then 0 else max 1 (refP p s).length
def ratK (s : Nat → Int) (p : Pt) : Pt := if 0 < (refP p s).length then lastP (refP p s) else p
theorem adds_last {t : TS} {X Y : Nat → Int} {k : Nat} (h : 0 < k) : (t.adds X Y k).pos = lastP (ptsL X Y k) := by
  obtain ⟨j, rfl⟩ : ∃ j, k = j + 1 := ⟨k - 1, by omega⟩
  rw [adds_pos, ptsL_succ, lastP_snoc]
theorem ref_cost {s : Nat → Int} {p : Pt} {b : Int} (hp : fitsP p = true) (h : rightE s b = 0) : rcostK s p = costK s p ∧ ratK s p = atK s p := by
  obtain ⟨h0, hf⟩ := right_fits h
  rcases uses_of (s 0) with ⟨e, hu⟩ | ⟨e, hu⟩ | ⟨e, hu⟩ | ⟨e, hu⟩ | ⟨e, hu⟩ | hneg
  · unfold rcostK ratK costK atK refP
    simp only [e]
    exact ⟨rfl, rfl⟩
  · unfold rcostK ratK costK atK refP
    simp only [e]
    exact ⟨rfl, rfl⟩
  · rw [hu] at hf
    have hN := (piecesN_of (crv_fits (Or.inl rfl) hp hf)).1
    have hN2 : 0 < crvN 3 p s := hN
    have hc := curve_pos (t := ⟨[], [], p⟩) (s := s) (m := 3) (Or.inl rfl) hp hf
    unfold TS.curve at hc
    rw [adds_last hN2] at hc
    have eP : refP p s = ptsL (crvX 3 p s) (crvY 3 p s) (crvN 3 p s) := by
      unfold refP
      rw [if_neg (by omega), if_neg (by omega), if_pos e]
    unfold rcostK ratK
    rw [eP, ptsL_len, if_neg (by omega), if_pos hN2, hc]
    unfold costK atK
    simp only [e]
    refine ⟨?_, rfl⟩
    show max 1 (crvN 3 p s) = crvN 3 p s
    omega
  · rw [hu] at hf
    have hN := (piecesN_of (crv_fits (Or.inr rfl) hp hf)).1
    have hN2 : 0 < crvN 4 p s := hN
    have hc := curve_pos (t := ⟨[], [], p⟩) (s := s) (m := 4) (Or.inr rfl) hp hf
    unfold TS.curve at hc
    rw [adds_last hN2] at hc
    have eP : refP p s = ptsL (crvX 4 p s) (crvY 4 p s) (crvN 4 p s) := by
      unfold refP
      rw [if_neg (by omega), if_neg (by omega), if_neg (by omega), if_pos e]
    unfold rcostK ratK
    rw [eP, ptsL_len, if_neg (by omega), if_pos hN2, hc]
    unfold costK atK
    simp only [e]
    refine ⟨?_, rfl⟩
    show max 1 (crvN 4 p s) = crvN 4 p s
    omega
  · unfold rcostK ratK costK atK refP
    simp only [e]
    exact ⟨rfl, rfl⟩
  · omega
theorem cost_step {F : Nat → Nat → Int} {n i : Nat} (h : chk F n = 0) (hi : i < n) : costT F (i + 1) = costT F i + rcostK (F i) (atT F i) ∧ atT F (i + 1) = ratK (F i) (atT F i) := by
  have h1 := ref_cost (trace_pos h i (by omega)).2 (chk_at h hi)
  exact ⟨by show costT F i + costK _ _ = _; rw [h1.1], h1.2.symm⟩
end Go.Proofs.Ythglgempbdaikaa
namespace Go.Proofs.Ythglgempbdaikaa
open Go.RowKit

theorem ruses_any (op : Int) (w : World) : Calls Try.prog 17 #[.int .i64 op] w (RetPost (.int .i64 (usesI op)) w) := by
  by_cases h4 : op = 4
  · subst h4
    go_enter Try.func17, Try.ntmps17
    go_wp2
    go_ret
    exact ⟨rfl, below_alloc _ _⟩
  by_cases h3 : op = 3
  · subst h3
    go_enter Try.func17, Try.ntmps17
    go_wp2
    go_ret
    exact ⟨rfl, below_alloc _ _⟩
  by_cases h2 : op = 2
  · subst h2
    go_enter Try.func17, Try.ntmps17
    go_wp2
    go_ret
    exact ⟨rfl, below_alloc _ _⟩
  by_cases h1 : op = 1
  · subst h1
    go_enter Try.func17, Try.ntmps17
    go_wp2
    go_ret
    exact ⟨rfl, below_alloc _ _⟩
  by_cases h5 : op = 5
  · subst h5
    go_enter Try.func17, Try.ntmps17
    go_wp2
    go_ret
    exact ⟨rfl, below_alloc _ _⟩
  have e : usesI op = -1 := by unfold usesI; rw [if_neg h1, if_neg h2, if_neg h3, if_neg h4, if_neg h5]
  rw [e]
  clear e
  by_cases hlt : op < 1
  · clear h1 h2 h3 h4 h5
    go_enter Try.func17, Try.ntmps17
    go_wp2
    go_ret
    exact ⟨rfl, Below.refl _ _⟩
  · have hgt : op > 5 := by omega
    clear h1 h2 h3 h4 h5
    go_enter Try.func17, Try.ntmps17
    go_wp2
    go_ret
    exact ⟨rfl, Below.refl _ _⟩

/-- what the reference says of a step -/
theorem chk_next {F : Nat → Nat → Int} {k n : Nat} (h : chk F k = 0) (hk : k < n) : chk F (k + 1) = rightE (F k) (beh F k) ∧ (rightE (F k) (beh F k) ≠ 0 → chk F n = rightE (F k) (beh F k)) := by
  have e : chk F (k + 1) = rightE (F k) (beh F k) := by
    show (if chk F k = 0 then rightE (F k) (beh F k) else chk F k) = _
    rw [if_pos h]
  exact ⟨e, fun hne => by rw [← e]; exact chk_stays (by rw [e]; exact hne) (by omega)⟩
theorem beh_ne {F : Nat → Nat → Int} {k : Nat} (h : chk F (k + 1) = 0) : F k 0 ≠ 0 := by
  have h2 := (right_fits (chk_at h (Nat.lt_succ_self k))).1
  intro e
  rw [e] at h2
  exact absurd h2 (by decide)
set_option maxRecDepth 100000 in
set_option maxHeartbeats 6400000 in
theorem rcheck_any (sv : Value) (n : Nat) (F : Nat → Nat → Int) (w : World) (h : Sts w sv n F) : Calls Try.prog 24 #[sv] w (RetPost (.int .i64 (checkE F n)) w) := by
  obtain ⟨a, cap, rfl, hn, hc⟩ := h
  have C := Lib.hid hc
  clear hc
  by_cases hbig : 200 < n
  · have e : checkE F n = 7 := by unfold checkE; rw [if_pos hbig]
    rw [e]
    clear e
    go_enter Try.func24, Try.ntmps24
    go_wp2_with fail
    go_ret
    exact ⟨rfl, Below.refl _ _⟩
  have CE : Hid (checkE F n = chk F n) := Lib.hid (by unfold checkE; rw [if_neg hbig])
  rw [CE.out]
  have hn2 : n ≤ 200 := by omega
  go_enter Try.func24, Try.ntmps24
  go_wp2_with fail
  go_loopw [3] (fun i wr => ∃ k : Nat, k ≤ n ∧ i = .int .i64 k ∧ chk F k = 0 ∧ Below w.heap.size w wr) (fun i _ => n - (intOf i).toNat)
  case atStart => exact ⟨0, by omega, rfl, rfl, Below.refl _ _⟩
  case round =>
    obtain ⟨k, hk, rfl, hchk, hb⟩ := hrel
    have HC := Lib.hid hchk
    have B := Lib.hid hb
    clear hchk hb
    by_cases hlt : k < n
    · obtain ⟨g, off, rfl, hp⟩ := C.out (by omega)
      have c0 := cell_later B.out (hp k hlt 0 (by omega))
      rw [Nat.add_zero] at c0
      have UI := Lib.hid (fun W => ruses_any (F k 0) W)
      obtain ⟨hn1, hn3⟩ := chk_next HC.out hlt
      have PT : Hid (PtAt w g (off + k * 7 + 1) 3 (sX (F k)) (sY (F k))) := Lib.hid (by
        intro j hj
        have h1 := hp k hlt (1 + 2 * j) (by omega)
        have h2 := hp k hlt (2 + 2 * j) (by omega)
        rw [show off + k * 7 + (1 + 2 * j) = off + k * 7 + 1 + j * 2 by omega] at h1
        rw [show off + k * 7 + (2 + 2 * j) = off + k * 7 + 1 + j * 2 + 1 by omega] at h2
        exact ⟨h1, h2⟩)
      have PREV : Hid (∀ q, k = q + 1 → beh F k = F q 0 ∧ F q 0 ≠ 0 ∧ ∀ W, Below w.heap.size w W → W.cell? ⟨g, off + q * 7, none⟩ = some (.int .i64 (F q 0))) := Lib.hid (by
        intro q hq
        refine ⟨by rw [hq]; rfl, beh_ne (by rw [← hq]; exact HC.out), fun W hW => ?_⟩
        have := cell_later hW (hp q (by omega) 0 (by omega))
        rwa [Nat.add_zero] at this)
      have RE : Hid (rightE (F k) (beh F k) = if usesI (F k 0) < 0 then 2 else if F k 0 ≠ 1 ∧ (beh F k = 0 ∨ beh F k = 5) then 12 else if fitsTo (sX (F k)) (sY (F k)) (usesN (F k 0)) = true then 0 else 4) := Lib.hid rfl
      have B0 : Hid (k = 0 → beh F k = 0) := Lib.hid (fun h => by rw [h]; rfl)
      have UL := usesI_le (F k 0)
      have UN : Hid (usesN (F k 0) = (usesI (F k 0)).toNat) := Lib.hid rfl
      obtain ⟨re, hre⟩ : ∃ r, r = rightE (F k) (beh F k) := ⟨_, rfl⟩
      rw [← hre] at hn1 hn3 RE
      have NE := Lib.hid (And.intro hn1 hn3)
      obtain ⟨bb, hbb⟩ : ∃ b, b = beh F k := ⟨_, rfl⟩
      rw [← hbb] at RE PREV B0
      obtain ⟨X, hX⟩ : ∃ X, X = sX (F k) := ⟨_, rfl⟩
      obtain ⟨Y, hY⟩ : ∃ Y, Y = sY (F k) := ⟨_, rfl⟩
      rw [← hX, ← hY] at RE PT
      obtain ⟨f0, hf0⟩ : ∃ x, x = F k 0 := ⟨_, rfl⟩
      rw [← hf0] at c0 UI UL UN RE
      obtain ⟨u, hu⟩ : ∃ x, x = usesI f0 := ⟨_, rfl⟩
      rw [← hu] at UI UL UN RE
      obtain ⟨un, hun⟩ : ∃ x, x = usesN f0 := ⟨_, rfl⟩
      rw [← hun] at UN RE
      clear hre hbb hX hY hf0 hu hun hp hn1 hn3
      have hk0 : (0 : Int) ≤ (k : Int) := by omega
      have hk3 : (k : Int) < (n : Int) := by omega
      go_wp2_with fail
      refine (UI.out _).mono ?_
      rintro e w2 ⟨rfl, hb2⟩
      have B2 := Lib.hid (bthen B.out hb2)
      have c0 := cell_later hb2 c0
      clear hb2
      by_cases hneg : u < 0
      · have hr : re = 2 := by rw [RE.out, if_pos hneg]
        subst hr
        have HH := Lib.hid (NE.out.2 (by decide))
        go_wp2_with fail
        go_ret
        exact ⟨by rw [HH.out]; rfl, B2.out⟩
      · have hrest : re = if f0 ≠ 1 ∧ (bb = 0 ∨ bb = 5) then 12 else if fitsTo X Y un = true then 0 else 4 := by rw [RE.out, if_neg hneg]
        have RE2 := Lib.hid hrest
        clear RE
        clear hrest
        obtain ⟨m, rfl⟩ : ∃ m : Nat, u = (m : Int) := ⟨u.toNat, by omega⟩
        have em : un = m := by rw [UN.out]; simp
        subst em
        have hm3 : un ≤ 3 := by omega
        clear UL hneg
        have hdn : decide ((un : Int) < 0) = false := decide_eq_false (by omega)
        -- the order
        have hcase : ((f0 != 1) = true ∧ ((k : Int) == 0) = true ∧ re = 12) ∨ ((f0 != 1) = true ∧ ((k : Int) == 0) = false ∧ (∃ (q : Nat) (pv : Int), ((k : Int) - 1 = (q : Int) ∧ (q : Int) < (n : Int) ∧ q < n) ∧ w2.cell? ⟨g, off + q * 7, none⟩ = some (.int .i64 pv) ∧ (((pv == 5) = true ∧ re = 12) ∨ ((pv == 5) = false ∧ re = if fitsTo X Y un = true then 0 else 4)))) ∨ ((f0 != 1) = false ∧ re = if fitsTo X Y un = true then 0 else 4) := by
          by_cases h1 : f0 = 1
          · exact Or.inr (Or.inr ⟨by simp [h1], by rw [RE2.out, if_neg (by simp [h1])]⟩)
          · have h1' : (f0 != 1) = true := by simpa using h1
            by_cases h0 : k = 0
            · exact Or.inl ⟨h1', by simp [h0], by rw [RE2.out, if_pos ⟨h1, Or.inl (B0.out h0)⟩]⟩
            · obtain ⟨q, hq⟩ : ∃ q, k = q + 1 := ⟨k - 1, by omega⟩
              obtain ⟨p1, p2, p3⟩ := PREV.out q hq
              refine Or.inr (Or.inl ⟨h1', beq_eq_false_iff_ne.2 (by omega), q, F q 0, ⟨by omega, by omega, by omega⟩, p3 w2 B2.out, ?_⟩)
              by_cases h5 : F q 0 = 5
              · exact Or.inl ⟨by simp [h5], by rw [RE2.out, if_pos ⟨h1, Or.inr (by rw [p1, h5])⟩]⟩
              · refine Or.inr ⟨by simpa using h5, ?_⟩
                rw [RE2.out, if_neg]
                rintro ⟨_, h | h⟩
                · rw [p1] at h; exact p2 h
                · rw [p1] at h; exact h5 h
        clear RE2 B0 PREV
        have tail : Hid (re = (if fitsTo X Y un = true then 0 else 4) → True) := Lib.hid (fun _ => trivial)
        clear tail
        rcases hcase with ⟨e1, e2, rfl⟩ | ⟨e1, e2, q, pv, ⟨hq1, hq2, hq3⟩, cq, ⟨e3, rfl⟩ | ⟨e3, hre⟩⟩ | ⟨e1, hre⟩
        · have HH := Lib.hid (NE.out.2 (by decide))
          go_wp2_with fail
          go_ret
          exact ⟨by rw [HH.out]; rfl, B2.out⟩
        · have HH := Lib.hid (NE.out.2 (by decide))
          go_wp2_with fail
          go_ret
          exact ⟨by rw [HH.out]; rfl, B2.out⟩
        all_goals
          have RR := Lib.hid hre
          clear hre
          go_wp2_with fail
          try simp only [hdn]
          go_loopw [5] (fun i wz => ∃ j : Nat, j ≤ un ∧ i = .int .i64 j ∧ fitsTo X Y j = true ∧ Below w.heap.size w wz) (fun i _ => un - (intOf i).toNat)
          case atStart => exact ⟨0, by omega, rfl, rfl, B2.out⟩
          case round =>
            obtain ⟨j, hj, rfl, hf, hbz⟩ := hrel
            have HF := Lib.hid hf
            have BZ := Lib.hid hbz
            clear hf hbz
            by_cases hlj : j < un
            · obtain ⟨d0, d1⟩ := PT.out.later BZ.out j (by omega)
              obtain ⟨x, hx⟩ : ∃ x, x = X j := ⟨_, rfl⟩
              obtain ⟨y, hy⟩ : ∃ y, y = Y j := ⟨_, rfl⟩
              rw [← hx] at d0
              rw [← hy] at d1
              have HX := Lib.hid (And.intro hx hy)
              clear hx hy
              have hj0 : (0 : Int) ≤ (j : Int) := by omega
              have hj3 : (j : Int) < (un : Int) := by omega
              have hj4 : j < 3 := by omega
              have hj5 : (j : Int) < 3 := by omega
              go_wp2_with fail
              refine (rfits_any x y _).mono ?_
              rintro e w3 ⟨rfl, hw3⟩
              have B3 : Hid (Below w.heap.size w w3) := Lib.hid (by rw [hw3]; exact bthen BZ.out (below_alloc _ _))
              clear hw3
              cases hfit : fits x y
              · have e : re = 4 := by
                  rw [RR.out, if_neg]
                  rw [fitsTo_lt hlj (by rw [← HX.out.1, ← HX.out.2]; exact hfit)]
                  simp
                subst e
                have HH := Lib.hid (NE.out.2 (by decide))
                go_wp2_with fail
                go_ret
                exact ⟨by rw [HH.out]; rfl, B3.out⟩
              · have HK : Hid (fitsTo X Y (j + 1) = true) := Lib.hid (by unfold fitsTo; rw [HF.out, ← HX.out.1, ← HX.out.2, hfit]; rfl)
                clear hfit
                go_wp2_with fail
                refine ⟨⟨j + 1, by omega, by go_num, HK.out, B3.out⟩, by (first | (simp [intOf]; done) | (simp [intOf]; omega) | (simp only [intOf]; omega))⟩
            · have ek : j = un := by omega
              subst ek
              have e : re = 0 := by rw [RR.out, if_pos HF.out]
              subst e
              have HH := Lib.hid NE.out.1
              go_wp2_with fail
              refine ⟨⟨_ + 1, ?_, ?_, HH.out, BZ.out⟩, ?_⟩
              · omega
              · go_num
              · (first | (simp [intOf]; done) | (simp [intOf]; omega) | (simp only [intOf]; omega))
    · obtain rfl : k = n := by omega
      go_wp2_with fail
      go_ret
      exact ⟨by rw [HC.out]; rfl, B.out⟩
end Go.Proofs.Ythglgempbdaikaa
namespace Go.Proofs.Ythglgempbdaikaa
open Go.RowKit

def PointsPost (L : List Pt) (w : World) (e : Ending) (w' : World) : Prop := Below w.heap.size w w' ∧ ∃ v, e = .returned v ∧ LnV w' v L ∧ (L = [] → v = .slice none 0 0)
theorem lnv_nil (w : World) : LnV w (.slice none 0 0) [] := ⟨none, 0, rfl, by simp, fun h => by simp at h⟩
theorem lnv_one (w : World) (x y : Int) : LnV (w.alloc (.cells #[.int .i64 x, .int .i64 y] 42)) (.slice (some ⟨w.heap.size, 0, none⟩) 1 1) [(x, y)] := by
  refine ⟨_, 1, rfl, by simp, fun _ => ⟨w.heap.size, 0, rfl, fun j hj => ?_⟩⟩
  have b := BxAt.new w [.int .i64 x, .int .i64 y] 42
  obtain rfl : j = 0 := by simpa using hj
  exact ⟨b.2.2 0 _ rfl, b.2.2 1 _ rfl⟩
theorem lnv_pts {w : World} {B n : Nat} {v : Value} {X Y : Nat → Int} (h : RdP B w v n X Y) (hn : n ≤ 281474976710656) : LnV w v (ptsL X Y n) := by
  obtain ⟨g, off, cap, rfl, _, _, hp⟩ := h
  refine ⟨some ⟨g, off, none⟩, cap, by rw [ptsL_len], by rw [ptsL_len]; exact hn, fun _ => ⟨g, off, rfl, fun j hj => ?_⟩⟩
  rw [ptsL_len] at hj
  show _ = some (Value.int .i64 ((ptsL X Y n).getD j (0, 0)).1) ∧ _ = some (Value.int .i64 ((ptsL X Y n).getD j (0, 0)).2)
  rw [ptsL_get X Y n j hj]
  exact hp j hj
/-- the answer of the curve, as a list of points -/
theorem crv_points {X Y : Nat → Int} {m : Nat} {w w' : World} {e : Ending} (h : CurvePost X Y m w e w') :
    Below w.heap.size w w' ∧ ∃ v z, e = .returned (.tuple #[v, .int .i64 z]) ∧ LnV w' v (ptsL (fun j => partN X m (piecesN X Y m) (j + 1)) (fun j => partN Y m (piecesN X Y m) (j + 1)) (piecesN X Y m)) ∧ (ptsL (fun j => partN X m (piecesN X Y m) (j + 1)) (fun j => partN Y m (piecesN X Y m) (j + 1)) (piecesN X Y m) = [] → v = .slice none 0 0) := by
  obtain ⟨hb, h⟩ := h
  refine ⟨hb, ?_⟩
  rcases h with ⟨hz, rfl⟩ | ⟨hf, v, rfl, hr⟩
  · refine ⟨_, _, rfl, ?_, fun _ => rfl⟩
    rw [hz]
    exact lnv_nil _
  · have := piecesN_of hf
    refine ⟨_, _, rfl, lnv_pts hr (by omega), fun h => ?_⟩
    have h2 := congrArg List.length h
    rw [ptsL_len] at h2
    simp at h2
    omega
theorem pt3_of {W : World} {A : Nat} {x0 y0 x1 y1 x2 y2 : Int} {l : Nat → Int} (h : BxAt W A [.int .i64 x0, .int .i64 y0, .int .i64 x1, .int .i64 y1, .int .i64 x2, .int .i64 y2]) (e : x0 = l 0 ∧ y0 = l 1 ∧ x1 = l 2 ∧ y1 = l 3 ∧ x2 = l 4 ∧ y2 = l 5) : PtAt W A 0 3 (quadX l) (quadY l) := by
  obtain ⟨rfl, rfl, rfl, rfl, rfl, rfl⟩ := e
  intro j hj
  have h4 : j = 0 ∨ j = 1 ∨ j = 2 := by omega
  rcases h4 with rfl | rfl | rfl
  · exact ⟨h.2.2 0 _ rfl, h.2.2 1 _ rfl⟩
  · exact ⟨h.2.2 2 _ rfl, h.2.2 3 _ rfl⟩
  · exact ⟨h.2.2 4 _ rfl, h.2.2 5 _ rfl⟩
theorem pt4_of {W : World} {A : Nat} {x0 y0 x1 y1 x2 y2 x3 y3 : Int} {l : Nat → Int} (h : BxAt W A [.int .i64 x0, .int .i64 y0, .int .i64 x1, .int .i64 y1, .int .i64 x2, .int .i64 y2, .int .i64 x3, .int .i64 y3]) (e : x0 = l 0 ∧ y0 = l 1 ∧ x1 = l 2 ∧ y1 = l 3 ∧ x2 = l 4 ∧ y2 = l 5 ∧ x3 = l 6 ∧ y3 = l 7) : PtAt W A 0 4 (quadX l) (quadY l) := by
  obtain ⟨rfl, rfl, rfl, rfl, rfl, rfl, rfl, rfl⟩ := e
  intro j hj
  have h4 : j = 0 ∨ j = 1 ∨ j = 2 ∨ j = 3 := by omega
  rcases h4 with rfl | rfl | rfl | rfl
  · exact ⟨h.2.2 0 _ rfl, h.2.2 1 _ rfl⟩
  · exact ⟨h.2.2 2 _ rfl, h.2.2 3 _ rfl⟩
  · exact ⟨h.2.2 4 _ rfl, h.2.2 5 _ rfl⟩
  · exact ⟨h.2.2 6 _ rfl, h.2.2 7 _ rfl⟩
section
variable (px py x1 x2 x3 x4 x5 x6 : Int) (w : World)
set_option maxRecDepth 100000 in
set_option maxHeartbeats 3200000 in
theorem points_none (x0 : Int) (h1 : (x0 == 1) = false) (h2 : (x0 == 2) = false) (h3 : (x0 == 3) = false) (h4 : (x0 == 4) = false) :
    Calls Try.prog 26 #[.agg #[.int .i64 px, .int .i64 py], .agg #[.int .i64 x0, .int .i64 x1, .int .i64 x2, .int .i64 x3, .int .i64 x4, .int .i64 x5, .int .i64 x6]] w (PointsPost [] w) := by
  go_enter Try.func26, Try.ntmps26
  go_wp2_with fail
  go_ret
  exact ⟨by ((repeat' (first | with_reducible exact Below.refl _ _ | with_reducible assumption | with_reducible refine Below.drew ?_ | with_reducible refine Below.alloc ?_ ?_ _ | with_reducible refine Below.setCell ?_ ?_ _)) <;> (first | omega | (simp; done) | (simp; omega))), _, rfl, lnv_nil _, fun _ => rfl⟩
set_option maxRecDepth 100000 in
set_option maxHeartbeats 3200000 in
theorem points_one (x0 : Int) (h : x0 = 1 ∨ x0 = 2) :
    Calls Try.prog 26 #[.agg #[.int .i64 px, .int .i64 py], .agg #[.int .i64 x0, .int .i64 x1, .int .i64 x2, .int .i64 x3, .int .i64 x4, .int .i64 x5, .int .i64 x6]] w (PointsPost [(x1, x2)] w) := by
  rcases h with rfl | rfl
  all_goals
    go_enter Try.func26, Try.ntmps26
    go_wp2_with fail
    go_ret
    refine ⟨by ((repeat' (first | with_reducible exact Below.refl _ _ | with_reducible assumption | with_reducible refine Below.drew ?_ | with_reducible refine Below.alloc ?_ ?_ _ | with_reducible refine Below.setCell ?_ ?_ _)) <;> (first | omega | (simp; done) | (simp; omega))), _, rfl, ?_, fun h => by cases h⟩
    first
      | (simpa using lnv_one ((w.alloc (.cells #[.int .i64 px, .int .i64 py] 42)).alloc (.cells #[.int .i64 1, .int .i64 x1, .int .i64 x2, .int .i64 x3, .int .i64 x4, .int .i64 x5, .int .i64 x6] 59)) x1 x2; done)
      | (simpa using lnv_one ((w.alloc (.cells #[.int .i64 px, .int .i64 py] 42)).alloc (.cells #[.int .i64 2, .int .i64 x1, .int .i64 x2, .int .i64 x3, .int .i64 x4, .int .i64 x5, .int .i64 x6] 59)) x1 x2; done)
set_option maxRecDepth 100000 in
set_option maxHeartbeats 3200000 in
theorem points_quad (l : Nat → Int) (hl : px = l 0 ∧ py = l 1 ∧ x1 = l 2 ∧ x2 = l 3 ∧ x3 = l 4 ∧ x4 = l 5)
    (hc : ∀ (g : Nat) (W : World), PtAt W g 0 3 (quadX l) (quadY l) → Calls Try.prog 38 #[.slice (some ⟨g, 0, none⟩) 3 3] W (CurvePost (quadX l) (quadY l) 3 W)) :
    Calls Try.prog 26 #[.agg #[.int .i64 px, .int .i64 py], .agg #[.int .i64 3, .int .i64 x1, .int .i64 x2, .int .i64 x3, .int .i64 x4, .int .i64 x5, .int .i64 x6]] w
      (PointsPost (ptsL (fun j => partN (quadX l) 3 (piecesN (quadX l) (quadY l) 3) (j + 1)) (fun j => partN (quadY l) 3 (piecesN (quadX l) (quadY l) 3) (j + 1)) (piecesN (quadX l) (quadY l) 3)) w) := by
  have HC := Lib.hid hc
  have HL := Lib.hid hl
  obtain ⟨L, hL⟩ : ∃ L, L = ptsL (fun j => partN (quadX l) 3 (piecesN (quadX l) (quadY l) 3) (j + 1)) (fun j => partN (quadY l) 3 (piecesN (quadX l) (quadY l) 3) (j + 1)) (piecesN (quadX l) (quadY l) 3) := ⟨_, rfl⟩
  rw [← hL]
  have LL := Lib.hid hL
  clear hc hl hL
  go_enter Try.func26, Try.ntmps26
  go_wp2_with fail
  obtain ⟨w3, hw3⟩ : ∃ w3, w3 = ((w.alloc (.cells #[.int .i64 px, .int .i64 py] 42)).alloc (.cells #[.int .i64 3, .int .i64 x1, .int .i64 x2, .int .i64 x3, .int .i64 x4, .int .i64 x5, .int .i64 x6] 59)).alloc (.cells #[.int .i64 px, .int .i64 py, .int .i64 x1, .int .i64 x2, .int .i64 x3, .int .i64 x4] 42) := ⟨_, rfl⟩
  have X3 : BxAt w3 (w.heap.size + 1 + 1) [.int .i64 px, .int .i64 py, .int .i64 x1, .int .i64 x2, .int .i64 x3, .int .i64 x4] := by
    have := BxAt.new ((w.alloc (.cells #[.int .i64 px, .int .i64 py] 42)).alloc (.cells #[.int .i64 3, .int .i64 x1, .int .i64 x2, .int .i64 x3, .int .i64 x4, .int .i64 x5, .int .i64 x6] 59)) [.int .i64 px, .int .i64 py, .int .i64 x1, .int .i64 x2, .int .i64 x3, .int .i64 x4] 42
    rw [hw3]
    simpa using this
  have B3 : Hid (Below w.heap.size w w3) := Lib.hid (by rw [hw3]; exact bthen (bel2 w _ _) (below_alloc _ _))
  have P3 := Lib.hid (pt3_of X3 HL.out)
  rw [← hw3]
  clear hw3 X3
  refine (HC.out _ w3 P3.out).mono ?_
  intro e w4 h4
  obtain ⟨hb, v, z, rfl, hv, hn⟩ := crv_points h4
  rw [← LL.out] at hv hn
  have V := Lib.hid (And.intro hv hn)
  have B4 := Lib.hid (bthen B3.out hb)
  clear h4 hb hv hn
  go_wp2_with fail
  go_ret
  exact ⟨B4.out, _, rfl, V.out⟩
set_option maxRecDepth 100000 in
set_option maxHeartbeats 3200000 in
theorem points_cube (l : Nat → Int) (hl : px = l 0 ∧ py = l 1 ∧ x1 = l 2 ∧ x2 = l 3 ∧ x3 = l 4 ∧ x4 = l 5 ∧ x5 = l 6 ∧ x6 = l 7)
    (hc : ∀ (g : Nat) (W : World), PtAt W g 0 4 (quadX l) (quadY l) → Calls Try.prog 38 #[.slice (some ⟨g, 0, none⟩) 4 4] W (CurvePost (quadX l) (quadY l) 4 W)) :
    Calls Try.prog 26 #[.agg #[.int .i64 px, .int .i64 py], .agg #[.int .i64 4, .int .i64 x1, .int .i64 x2, .int .i64 x3, .int .i64 x4, .int .i64 x5, .int .i64 x6]] w
      (PointsPost (ptsL (fun j => partN (quadX l) 4 (piecesN (quadX l) (quadY l) 4) (j + 1)) (fun j => partN (quadY l) 4 (piecesN (quadX l) (quadY l) 4) (j + 1)) (piecesN (quadX l) (quadY l) 4)) w) := by
  have HC := Lib.hid hc
  have HL := Lib.hid hl
  obtain ⟨L, hL⟩ : ∃ L, L = ptsL (fun j => partN (quadX l) 4 (piecesN (quadX l) (quadY l) 4) (j + 1)) (fun j => partN (quadY l) 4 (piecesN (quadX l) (quadY l) 4) (j + 1)) (piecesN (quadX l) (quadY l) 4) := ⟨_, rfl⟩
  rw [← hL]
  have LL := Lib.hid hL
  clear hc hl hL
  go_enter Try.func26, Try.ntmps26
  go_wp2_with fail
  obtain ⟨w3, hw3⟩ : ∃ w3, w3 = ((w.alloc (.cells #[.int .i64 px, .int .i64 py] 42)).alloc (.cells #[.int .i64 4, .int .i64 x1, .int .i64 x2, .int .i64 x3, .int .i64 x4, .int .i64 x5, .int .i64 x6] 59)).alloc (.cells #[.int .i64 px, .int .i64 py, .int .i64 x1, .int .i64 x2, .int .i64 x3, .int .i64 x4, .int .i64 x5, .int .i64 x6] 42) := ⟨_, rfl⟩
  have X3 : BxAt w3 (w.heap.size + 1 + 1) [.int .i64 px, .int .i64 py, .int .i64 x1, .int .i64 x2, .int .i64 x3, .int .i64 x4, .int .i64 x5, .int .i64 x6] := by
    have := BxAt.new ((w.alloc (.cells #[.int .i64 px, .int .i64 py] 42)).alloc (.cells #[.int .i64 4, .int .i64 x1, .int .i64 x2, .int .i64 x3, .int .i64 x4, .int .i64 x5, .int .i64 x6] 59)) [.int .i64 px, .int .i64 py, .int .i64 x1, .int .i64 x2, .int .i64 x3, .int .i64 x4, .int .i64 x5, .int .i64 x6] 42
    rw [hw3]
    simpa using this
  have B3 : Hid (Below w.heap.size w w3) := Lib.hid (by rw [hw3]; exact bthen (bel2 w _ _) (below_alloc _ _))
  have P3 := Lib.hid (pt4_of X3 HL.out)
  rw [← hw3]
  clear hw3 X3
  refine (HC.out _ w3 P3.out).mono ?_
  intro e w4 h4
  obtain ⟨hb, v, z, rfl, hv, hn⟩ := crv_points h4
  rw [← LL.out] at hv hn
  have V := Lib.hid (And.intro hv hn)
  have B4 := Lib.hid (bthen B3.out hb)
  clear h4 hb hv hn
  go_wp2_with fail
  go_ret
  exact ⟨B4.out, _, rfl, V.out⟩
end
end Go.Proofs.Ythglgempbdaikaa
namespace Go.Proofs.Ythglgempbdaikaa
open Go.RowKit

def LinePost (l : List Pt) (c : Bool) (w : World) (e : Ending) (w' : World) : Prop :=
  Below w.heap.size w w' ∧ ∃ p n cp, e = .returned (.tuple #[.agg #[.slice p n cp, .bool c], .bool (decide (1 < ((lineO l c).length : Int)))]) ∧ (1 < (lineO l c).length → PLn w' w.heap.size w'.heap.size (.slice p n cp) (lineO l c))
theorem own_form {w : World} {B e s n : Nat} {v : Value} {xs : List Value} (h : w.ownsRow B e s v n xs) : ∃ p cp, v = .slice p n cp := by
  rcases h.2 with ⟨hv, h0⟩ | ⟨g, cap, cur, hv, _⟩
  · exact ⟨none, 0, by rw [hv, h0]⟩
  · exact ⟨_, cap, hv⟩
theorem own_some {w : World} {B e s n m c : Nat} {p : Option Addr} {xs : List Value} (h : w.ownsRow B e s (.slice p m c) n xs) (h0 : 0 < n) : ∃ g, p = some ⟨g, 0, none⟩ := by
  rcases h.2 with ⟨hv, h1⟩ | ⟨g, cap, cur, hv, _⟩
  · omega
  · simp only [Value.slice.injEq] at hv
    exact ⟨g, hv.1⟩
theorem ddL_last (l : List Pt) (k : Nat) : ddTo l (k + 1) = ddTo l k ++ ddK l k := rfl
/-- the end: the line is stored -/
theorem line_end {w wz : World} {A m cp M : Nat} {p : Option Addr} {D R : List Pt} {x y : Value} (hA : w.heap.size ≤ A) (hb : Below w.heap.size w wz) (ho : wz.ownsRow (A + 1) 42 2 (.slice p m cp) D.length (rowL D)) (hR : 1 < R.length → M = R.length ∧ R.length ≤ D.length ∧ ∀ k, k < R.length → R.getD k (0, 0) = D.getD k (0, 0)) :
    Below w.heap.size w ((wz.setCell ⟨A, 0, none⟩ x).setCell ⟨A, 1, none⟩ y) ∧ (1 < R.length → PLn ((wz.setCell ⟨A, 0, none⟩ x).setCell ⟨A, 1, none⟩ y) w.heap.size ((wz.setCell ⟨A, 0, none⟩ x).setCell ⟨A, 1, none⟩ y).heap.size (.slice p M cp) R) := by
  refine ⟨below_store2 hb hA _ _, fun h => ?_⟩
  obtain ⟨hM, hRD, hg⟩ := hR h
  obtain ⟨g, rfl⟩ := own_some ho (by omega)
  obtain ⟨h1, h2, hp⟩ := own_pts ho
  refine ⟨g, 0, cp, by rw [hM], by omega, by simpa using h2, fun k hk => ?_⟩
  show _ = some (Value.int .i64 (R.getD k (0, 0)).1) ∧ _ = some (Value.int .i64 (R.getD k (0, 0)).2)
  rw [hg k hk]
  obtain ⟨c1, c2⟩ := hp k (by omega)
  exact ⟨cell2_far c1 (by omega), cell2_far c2 (by omega)⟩
theorem line_fin {l : List Pt} {c : Bool} {w w2 : World} {A m cp M : Nat} {p : Option Addr} {D R : List Pt} (hA : w.heap.size ≤ A) (hb : Below w.heap.size w w2) (hO : lineO l c = R) (hM : M = R.length) (ho : w2.ownsRow (A + 1) 42 2 (.slice p m cp) D.length (rowL D)) (hR : R.length ≤ D.length ∧ ∀ k, k < R.length → R.getD k (0, 0) = D.getD k (0, 0)) :
    LinePost l c w (.returned (.tuple #[.agg #[.slice p M cp, .bool c], .bool (decide (1 < (M : Int)))])) ((w2.setCell ⟨A, 0, none⟩ (.slice p M cp)).setCell ⟨A, 1, none⟩ (.bool c)) := by
  obtain ⟨h1, h2⟩ := line_end (x := .slice p M cp) (y := .bool c) (M := M) hA hb ho (fun h => ⟨hM, hR⟩)
  refine ⟨h1, p, M, cp, ?_, ?_⟩
  · rw [hO, hM]
  · rw [hO]; exact h2
theorem BxAt.both {w : World} {g : Nat} {u0 u1 : Value} (h : BxAt w g [u0, u1]) (x y : Value) : BxAt ((w.setCell ⟨g, 0, none⟩ x).setCell ⟨g, 1, none⟩ y) g [x, y] :=
  (h.put 0 x (by simp)).put 1 y (by simp)
set_option maxRecDepth 100000 in
set_option maxHeartbeats 6400000 in
theorem line_any (v : Value) (l : List Pt) (c : Bool) (w : World) (hl : l.length ≤ 100000) (h : LnV w v l) : Calls Try.prog 25 #[v, .bool c] w (LinePost l c w) := by
  obtain ⟨i0, hi, hz0, hz1, hz2⟩ := info_parts Try.info42
  obtain ⟨a, cap, rfl, hn, hc⟩ := h
  have C := Lib.hid hc
  obtain ⟨n, hnl⟩ : ∃ n, n = l.length := ⟨_, rfl⟩
  rw [← hnl] at hl hn C ⊢
  have NL := Lib.hid hnl
  obtain ⟨w1, hw1⟩ : ∃ w1, w1 = w.alloc (.cells #[.slice none 0 0, .bool false] 56) := ⟨_, rfl⟩
  obtain ⟨A, hA⟩ : ∃ A, A = w.heap.size := ⟨_, rfl⟩
  have X1 : Hid (BxAt w1 A [.slice none 0 0, .bool false]) := Lib.hid (by rw [hw1, hA]; exact BxAt.new w _ _)
  have B1 : Hid (Below w.heap.size w w1) := Lib.hid (by rw [hw1]; exact below_alloc _ _)
  have S1 : Hid (w1.heap.size = A + 1) := Lib.hid (by rw [hw1, hA]; simp)
  have WA := Lib.hid (And.intro hw1 hA)
  clear hc hnl hw1 hA
  go_enter Try.func25, Try.ntmps25
  go_wp2_with fail
  rw [← WA.out.1, ← WA.out.2]
  go_loopw [6, 7] (fun v i wr => ∃ k : Nat, k ≤ n ∧ i = .int .i64 k ∧ wr.ownsRow (A + 1) 42 2 v (ddTo l k).length (rowL (ddTo l k)) ∧ Below (A + 1) w1 wr) (fun _ i _ => n - (intOf i).toNat)
  case atStart => exact ⟨0, by omega, rfl, World.ownsRow_nil _ _ _ _, Below.refl _ _⟩
  case round =>
    obtain ⟨k, hk, rfl, hown, hb⟩ := hrel
    have OW := Lib.hid hown
    have B := Lib.hid hb
    clear hown hb
    have DL := ddTo_len l k
    by_cases hlt : k < n
    · obtain ⟨g, off, rfl, hp⟩ := C.out (by omega)
      have BW : Hid (Below w.heap.size w wr) := Lib.hid (B1.out.trans (B.out.mono (by have := WA.out.2; omega)))
      have DS := Lib.hid (ddL_last l k)
      have DK : Hid (ddK l k = if k = 0 ∨ l.getD k (0, 0) ≠ l.getD (k - 1) (0, 0) then [l.getD k (0, 0)] else []) := Lib.hid rfl
      obtain ⟨c0, c1⟩ := hp.later BW.out k hlt
      dsimp only at c0 c1
      have hcase : (((k : Int) == 0) = true ∧ Hid (ddK l k = [l.getD k (0, 0)])) ∨ (((k : Int) == 0) = false ∧ ∃ (q : Nat) (px py : Int), ((k : Int) - 1 = (q : Int) ∧ (q : Int) < (n : Int) ∧ q < n) ∧ wr.cell? ⟨g, off + q * 2, none⟩ = some (.int .i64 px) ∧ wr.cell? ⟨g, off + q * 2 + 1, none⟩ = some (.int .i64 py) ∧
          (((((l.getD k (0, 0)).1 == px) = false ∨ (((l.getD k (0, 0)).1 == px) = true ∧ ((l.getD k (0, 0)).2 == py) = false)) ∧ Hid (ddK l k = [l.getD k (0, 0)])) ∨ (((l.getD k (0, 0)).1 == px) = true ∧ ((l.getD k (0, 0)).2 == py) = true ∧ Hid (ddK l k = [])))) := by
        by_cases h0 : k = 0
        · exact Or.inl ⟨by simp [h0], Lib.hid (by rw [DK.out, if_pos (Or.inl h0)])⟩
        · refine Or.inr ⟨beq_eq_false_iff_ne.2 (by omega), k - 1, (l.getD (k - 1) (0, 0)).1, (l.getD (k - 1) (0, 0)).2, ⟨by omega, by omega, by omega⟩, (hp.later BW.out (k - 1) (by omega)).1, (hp.later BW.out (k - 1) (by omega)).2, ?_⟩
          cases e1 : ((l.getD k (0, 0)).1 == (l.getD (k - 1) (0, 0)).1)
          · refine Or.inl ⟨Or.inl rfl, Lib.hid ?_⟩
            rw [DK.out, if_pos]
            refine Or.inr fun h => ?_
            rw [h] at e1
            simp at e1
          · cases e2 : ((l.getD k (0, 0)).2 == (l.getD (k - 1) (0, 0)).2)
            · refine Or.inl ⟨Or.inr ⟨rfl, rfl⟩, Lib.hid ?_⟩
              rw [DK.out, if_pos]
              refine Or.inr fun h => ?_
              rw [h] at e2
              simp at e2
            · refine Or.inr ⟨rfl, rfl, Lib.hid ?_⟩
              rw [DK.out, if_neg]
              rintro (h | h)
              · exact h0 h
              · rw [beq_iff_eq] at e1 e2
                exact h (Prod.ext e1 e2)
      obtain ⟨x, hx⟩ : ∃ x, x = (l.getD k (0, 0)).1 := ⟨_, rfl⟩
      obtain ⟨y, hy⟩ : ∃ y, y = (l.getD k (0, 0)).2 := ⟨_, rfl⟩
      rw [← hx] at c0 hcase
      rw [← hy] at c1 hcase
      have PE : Hid (l.getD k (0, 0) = (x, y)) := Lib.hid (by rw [hx, hy])
      rw [PE.out] at hcase
      have hk0 : (0 : Int) ≤ (k : Int) := by omega
      have hk3 : (k : Int) < (n : Int) := by omega
      have hn9 : n ≤ 100000 := hl
      clear hx hy hp DK PE
      rcases hcase with ⟨e1, HK⟩ | ⟨e1, q, px, py, ⟨hq1, hq2, hq3⟩, d0, d1, ⟨e2 | ⟨e2, e3⟩, HK⟩ | ⟨e2, e3, HK⟩⟩
      all_goals
        go_wp2_with fail
        go_quiet (fail)
        obtain ⟨w2, hw2⟩ : ∃ w2, w2 = wr.drewN nq := ⟨_, rfl⟩
        rw [← hw2]
        have b2 : Below wr.heap.size wr w2 := by rw [hw2]; exact below_drewN (Below.refl _ _) _
        have OW2 := Lib.hid (own_later OW.out b2)
        have B2 : Hid (Below (A + 1) w1 w2) := Lib.hid (by rw [hw2]; exact below_drewN B.out _)
        have c0 := cell_later b2 c0
        have c1 := cell_later b2 c1
        clear hw2 b2
      rotate_left 3
      · have O3 : Hid (w2.ownsRow (A + 1) 42 2 u6 (ddTo l (k + 1)).length (rowL (ddTo l (k + 1)))) := Lib.hid (by rw [DS.out, HK.out, List.append_nil]; exact OW2.out)
        go_wp2_with fail
        refine ⟨⟨k + 1, by omega, by go_num, O3.out, B2.out⟩, by (first | (simp [intOf]; done) | (simp [intOf]; omega) | (simp only [intOf]; omega))⟩
      all_goals
        obtain ⟨D, hD⟩ : ∃ D, D = ddTo l k := ⟨_, rfl⟩
        have DE := Lib.hid hD
        rw [← hD] at OW2 DL
        clear hD
        go_wp2_with (at_builtin; go_loud (refine wpList_app (w0 := w2) rfl (.tmp 28) (.tmp 33) 54 rfl (A + 1) 42 i0 (.agg #[.int .i64 0, .int .i64 0]) 2 16 [.int .i64 x, .int .i64 y] Try.underlying54 hi hz0 hz1 hz2 rfl rfl (by decide) _ _ _ rfl OW2.out rfl (by simp [Value.oneCell']) ?c1 ?c2 ?c3 ?_))
        case c1 => unfold maxLen; omega
        case c2 => omega
        case c3 => have := B2.out.size; have := S1.out; omega
        intro g' cap' w5 own5 hb5
        have O5 := Lib.hid (show w5.ownsRow (A + 1) 42 2 (.slice (some ⟨g', 0, none⟩) (D.length + 1) cap') (ddTo l (k + 1)).length (rowL (ddTo l (k + 1))) by
          rw [DS.out, HK.out, ← DE.out, ← rowL_snoc, List.length_append]
          exact own5)
        have B5 := Lib.hid (B2.out.trans hb5)
        clear own5 hb5
        go_wp2_with fail
        refine ⟨⟨k + 1, by omega, by go_num, O5.out, B5.out⟩, by (first | (simp [intOf]; done) | (simp [intOf]; omega) | (simp only [intOf]; omega))⟩
    · obtain rfl : k = n := by omega
      obtain ⟨p, cp, rfl⟩ := own_form OW.out
      have DE : Hid (ddTo l k = ddL l) := Lib.hid (by unfold ddL; rw [NL.out])
      rw [DE.out] at OW DL ⊢
      obtain ⟨D, hD⟩ : ∃ D, D = ddL l := ⟨_, rfl⟩
      have LO : Hid (lineO l c = finL c D) := Lib.hid (by rw [hD]; rfl)
      rw [← hD] at OW DL ⊢
      clear DE hD
      obtain ⟨m, hm⟩ : ∃ m, m = D.length := ⟨_, rfl⟩
      have ML := Lib.hid hm
      rw [← hm] at DL ⊢
      have BA : Hid (BxAt wr A [.slice none 0 0, .bool false]) := Lib.hid (X1.out.later (by rw [S1.out]; exact B.out))
      have BW : Hid (Below w.heap.size w wr) := Lib.hid (B1.out.trans (B.out.mono (by have := WA.out.2; omega)))
      have LE : Hid (w.heap.size ≤ A) := Lib.hid (by rw [WA.out.2]; exact Nat.le_refl _)
      have a0 := BA.out.2.2 0 _ rfl
      have a1 := BA.out.2.2 1 _ rfl
      have af := BA.out.2.1
      clear hm WA
      have hm9 : m ≤ 100000 := by omega
      -- the line as it is
      have same : Hid (finL c D = D → LO.out = LO.out) := Lib.hid (fun _ => rfl)
      clear same
      have hcase : (c = false ∧ Hid (lineO l c = D)) ∨ (c = true ∧ decide ((1 : Int) < (m : Int)) = false ∧ Hid (lineO l c = D)) ∨
          (c = true ∧ ∃ (q : Nat) (g : Nat) (x y px py : Int), (m : Int) - 1 = (q : Int) ∧ ((0 : Int) < (m : Int) ∧ 0 < m ∧ q < m ∧ (1 : Int) < (m : Int) ∧ (q : Int) ≤ (cp : Int) ∧ Hid (m = q + 1)) ∧ (q : Int) < (m : Int) ∧ decide ((1 : Int) < (m : Int)) = true ∧ p = some ⟨g, 0, none⟩ ∧ wr.cell? ⟨g, 0, none⟩ = some (.int .i64 x) ∧ wr.cell? ⟨g, 1, none⟩ = some (.int .i64 y) ∧ wr.cell? ⟨g, q * 2, none⟩ = some (.int .i64 px) ∧ wr.cell? ⟨g, q * 2 + 1, none⟩ = some (.int .i64 py) ∧
            ((((x == px) = false ∨ ((x == px) = true ∧ (y == py) = false)) ∧ Hid (lineO l c = D)) ∨ ((x == px) = true ∧ (y == py) = true ∧ Hid (lineO l c = D.take (D.length - 1))))) := by
        cases hc : c
        · refine Or.inl ⟨rfl, Lib.hid ?_⟩
          rw [← hc, LO.out, hc, finL_false]
        · rw [← hc, LO.out, hc]
          refine Or.inr ?_
          by_cases h1 : 1 < m
          · refine Or.inr ⟨rfl, m - 1, ?_⟩
            have hq : D.length - 1 = m - 1 := by rw [ML.out]
            obtain ⟨g, rfl⟩ := own_some OW.out (by rw [← ML.out]; omega)
            obtain ⟨_, _, hp⟩ := own_pts OW.out
            have hc9 : (m : Int) ≤ (cp : Int) := by
              rcases OW.out.2 with ⟨hv, h0⟩ | ⟨_, cap, _, hv, _, _, hcap, _⟩
              · cases hv
              · simp only [Value.slice.injEq] at hv
                rw [ML.out]
                omega
            have b0 := (hp 0 (by rw [← ML.out]; omega)).1
            have b1 := (hp 0 (by rw [← ML.out]; omega)).2
            have b2 := (hp (m - 1) (by rw [← ML.out]; omega)).1
            have b3 := (hp (m - 1) (by rw [← ML.out]; omega)).2
            simp only [Nat.zero_mul, Nat.zero_add, Nat.add_zero] at b0 b1 b2 b3
            refine ⟨g, _, _, _, _, by omega, ⟨by omega, by omega, by omega, by omega, by omega, Lib.hid (by omega)⟩, by omega, decide_eq_true (by omega), rfl, b0, b1, b2, b3, ?_⟩
            cases e1 : ((D.getD 0 (0, 0)).1 == (D.getD (m - 1) (0, 0)).1)
            · refine Or.inl ⟨Or.inl rfl, Lib.hid (finL_ne fun h => ?_)⟩
              rw [hq] at h
              rw [h] at e1
              simp at e1
            · cases e2 : ((D.getD 0 (0, 0)).2 == (D.getD (m - 1) (0, 0)).2)
              · refine Or.inl ⟨Or.inr ⟨rfl, rfl⟩, Lib.hid (finL_ne fun h => ?_)⟩
                rw [hq] at h
                rw [h] at e2
                simp at e2
              · rw [beq_iff_eq] at e1 e2
                exact Or.inr ⟨rfl, rfl, Lib.hid (finL_eq (by rw [← ML.out]; omega) (by rw [hq]; exact Prod.ext e1 e2))⟩
          · exact Or.inl ⟨rfl, decide_eq_false (by omega), Lib.hid (finL_short true (by rw [← ML.out]; omega))⟩
      have RES := Lib.hid (fun (w' : World) (r : Nat) => (rfl : LinePost l c w = LinePost l c w))
      clear RES
      rcases hcase with ⟨rfl, HL⟩ | ⟨rfl, e1, HL⟩ | ⟨rfl, q, g, x, y, px, py, hq1, ⟨hq5, hq6, hq7, hq8, hq9, QM⟩, hq3, hq4, rfl, b0, b1, b2, b3, ⟨e1 | ⟨e1, e2⟩, HL⟩ | ⟨e1, e2, HL⟩⟩
      all_goals
        go_wp2_with fail
        go_quiet (fail)
        obtain ⟨w2, hw2⟩ : ∃ w2, w2 = wr.drewN nq := ⟨_, rfl⟩
        rw [← hw2]
        have b2 : Below wr.heap.size wr w2 := by rw [hw2]; exact below_drewN (Below.refl _ _) _
        have OW2 := Lib.hid (own_later OW.out b2)
        have BW2 := Lib.hid (bthen BW.out b2)
        have BA2 := BA.out.later b2
        have a0 := BA2.2.2 0 _ rfl
        have a1 := BA2.2.2 1 _ rfl
        have af := BA2.2.1
        have BA3 := Lib.hid BA2
        clear hw2 b2 BA2
        go_wp2_with fail
      · have FN := Lib.hid (line_fin (c := false) LE.out BW2.out HL.out ML.out OW2.out ⟨Nat.le_refl _, fun _ _ => rfl⟩)
        have z := BA3.out.both (.slice p m cp) (.bool false)
        have z0 := z.2.2 0 _ rfl
        have z1 := z.2.2 1 _ rfl
        refine bodyPost_ret (v := .tuple #[.agg #[.slice p m cp, .bool false], .bool (decide (1 < (m : Int)))]) ?_ rfl FN.out
        simp [results, Try.results25, go_sem, z0, z1]
      · have FN := Lib.hid (line_fin (c := true) LE.out BW2.out HL.out ML.out OW2.out ⟨Nat.le_refl _, fun _ _ => rfl⟩)
        have z := BA3.out.both (.slice p m cp) (.bool true)
        have z0 := z.2.2 0 _ rfl
        have z1 := z.2.2 1 _ rfl
        refine bodyPost_ret (v := .tuple #[.agg #[.slice p m cp, .bool true], .bool (decide (1 < (m : Int)))]) ?_ rfl FN.out
        rw [e1]
        simp [results, Try.results25, go_sem, z0, z1]
      rotate_left 2
      · have TL : Hid (q = (D.take (D.length - 1)).length ∧ (D.take (D.length - 1)).length ≤ D.length ∧ ∀ k, k < (D.take (D.length - 1)).length → (D.take (D.length - 1)).getD k (0, 0) = D.getD k (0, 0)) := Lib.hid (by
          have e : (D.take (D.length - 1)).length = q := by rw [List.length_take, ← ML.out, QM.out]; omega
          refine ⟨e.symm, by rw [e, ← ML.out]; omega, fun k hk => getD_take (by rw [List.length_take] at hk; omega)⟩)
        have FN := Lib.hid (line_fin (c := true) LE.out BW2.out HL.out TL.out.1 OW2.out TL.out.2)
        have z := BA3.out.both (.slice (some ⟨g, 0, none⟩) q cp) (.bool true)
        have z0 := z.2.2 0 _ rfl
        have z1 := z.2.2 1 _ rfl
        refine bodyPost_ret (v := .tuple #[.agg #[.slice (some ⟨g, 0, none⟩) q cp, .bool true], .bool (decide (1 < (q : Int)))]) ?_ rfl FN.out
        simp [results, Try.results25, go_sem, z0, z1]
      all_goals
        have FN := Lib.hid (line_fin (c := true) LE.out BW2.out HL.out ML.out OW2.out ⟨Nat.le_refl _, fun _ _ => rfl⟩)
        have z := BA3.out.both (.slice (some ⟨g, 0, none⟩) m cp) (.bool true)
        have z0 := z.2.2 0 _ rfl
        have z1 := z.2.2 1 _ rfl
        refine bodyPost_ret (v := .tuple #[.agg #[.slice (some ⟨g, 0, none⟩) m cp, .bool true], .bool (decide (1 < (m : Int)))]) ?_ rfl FN.out
        rw [hq4]
        simp [results, Try.results25, go_sem, z0, z1]
end Go.Proofs.Ythglgempbdaikaa
namespace Go.Proofs.Ythglgempbdaikaa
open Go.RowKit

theorem points_any (p : Pt) (s : Nat → Int) (w : World) : Calls Try.prog 26 #[.agg #[.int .i64 p.1, .int .i64 p.2], .agg #[.int .i64 (s 0), .int .i64 (s 1), .int .i64 (s 2), .int .i64 (s 3), .int .i64 (s 4), .int .i64 (s 5), .int .i64 (s 6)]] w (PointsPost (refP p s) w) := by
  by_cases h1 : s 0 = 1
  · have e : refP p s = [(s 1, s 2)] := by unfold refP; rw [if_pos h1]
    rw [e]
    exact points_one _ _ _ _ _ _ _ _ _ _ (Or.inl h1)
  by_cases h2 : s 0 = 2
  · have e : refP p s = [(s 1, s 2)] := by unfold refP; rw [if_neg h1, if_pos h2]
    rw [e]
    exact points_one _ _ _ _ _ _ _ _ _ _ (Or.inr h2)
  by_cases h3 : s 0 = 3
  · have e : refP p s = ptsL (crvX 3 p s) (crvY 3 p s) (crvN 3 p s) := by unfold refP; rw [if_neg h1, if_neg h2, if_pos h3]
    rw [e, h3]
    exact points_quad _ _ _ _ _ _ _ _ _ (crv p s) ⟨rfl, rfl, rfl, rfl, rfl, rfl⟩ (fun g W h => rcurve_any g 0 3 3 _ _ W (Or.inl rfl) h)
  by_cases h4 : s 0 = 4
  · have e : refP p s = ptsL (crvX 4 p s) (crvY 4 p s) (crvN 4 p s) := by unfold refP; rw [if_neg h1, if_neg h2, if_neg h3, if_pos h4]
    rw [e, h4]
    exact points_cube _ _ _ _ _ _ _ _ _ (crv p s) ⟨rfl, rfl, rfl, rfl, rfl, rfl, rfl, rfl⟩ (fun g W h => rcurve_any g 0 4 4 _ _ W (Or.inr rfl) h)
  · have e : refP p s = [] := by unfold refP; rw [if_neg h1, if_neg h2, if_neg h3, if_neg h4]
    rw [e]
    exact points_none _ _ _ _ _ _ _ _ _ _ (by simpa using h1) (by simpa using h2) (by simpa using h3) (by simpa using h4)
theorem own_lnv {w : World} {B : Nat} {v : Value} {l : List Pt} (h : w.ownsRow B 42 2 v l.length (rowL l)) (hl : l.length ≤ 100000) : LnV w v l := by
  obtain ⟨p, cp, rfl⟩ := own_form h
  refine ⟨p, cp, rfl, by omega, fun h0 => ?_⟩
  obtain ⟨g, rfl⟩ := own_some h h0
  exact ⟨g, 0, rfl, (own_pts h).2.2⟩
/-- the reference's rows: the lines that are out, and the points of the line that is being made -/
def RTr (w : World) (Bd : Nat) (vd vn : Value) (r : RS) : Prop := ∃ Bn, (∃ p n c, vd = .slice p n c) ∧ Bd ≤ Bn ∧ Bn ≤ w.heap.size ∧ w.ownsRow Bn 42 2 vn r.now.length (rowL r.now) ∧ DRow w Bd Bn vd r.out
theorem RTr.later {w w1 : World} {Bd : Nat} {vd vn : Value} {r : RS} (h : RTr w Bd vd vn r) (hb : Below w.heap.size w w1) : RTr w1 Bd vd vn r := by
  obtain ⟨Bn, hv, h1, h2, h3, h4⟩ := h
  exact ⟨Bn, hv, h1, Nat.le_trans h2 hb.size, own_later h3 hb, h4.below (hb.mono h2) (Nat.le_refl _)⟩
theorem RTr.start (w : World) : RTr w w.heap.size (.slice none 0 0) (.slice none 0 0) ⟨[], []⟩ :=
  ⟨w.heap.size, ⟨_, _, _, rfl⟩, Nat.le_refl _, Nat.le_refl _, World.ownsRow_nil _ _ _ _, DRow.nil _ _ _⟩
theorem RTr.drop {w : World} {Bd : Nat} {vd vn : Value} {r : RS} (h : RTr w Bd vd vn r) : RTr w Bd vd (.slice none 0 0) ⟨r.out, []⟩ := by
  obtain ⟨Bn, hv, h1, h2, h3, h4⟩ := h
  exact ⟨Bn, hv, h1, h2, World.ownsRow_nil _ _ _ _, h4⟩
/-- a line more -/
theorem RTr.line {w1 w5 : World} {Bd Bn g' cap' : Nat} {vd : Value} {pl : Option Addr} {nl cll : Nat} {cl : Bool} {cs : List Value} {l : List Pt} {L : List Ln} (h2 : Bd ≤ Bn) (h3 : Bn ≤ w1.heap.size)
    (ow1 : cs.length = L.length * 2) (ow5 : w5.ownsRow Bd 56 2 (.slice (some ⟨g', 0, none⟩) (L.length + 1) cap') (L.length + 1) (cs ++ [.slice pl nl cll, .bool cl]))
    (gr5 : w1.grownBy w5 vd.ownBlock) (ni5 : NoInt w5 (.slice (some ⟨g', 0, none⟩) (L.length + 1) cap')) (ni1 : NoInt w1 vd)
    (sp : ∀ j, j < L.length → ∃ p n c, cs[j * 2]? = some (.slice p n c) ∧ cs[j * 2 + 1]? = some (.bool (L.getD j ([], false)).2) ∧ PLn w1 Bd Bn (.slice p n c) (L.getD j ([], false)).1)
    (hpl : PLn w1 Bd w1.heap.size (.slice pl nl cll) l) :
    RTr w5 Bd (.slice (some ⟨g', 0, none⟩) (L.length + 1) cap') (.slice none 0 0) ⟨L ++ [(l, cl)], []⟩ := by
  have hs5 := gr5.size
  have hlen : (L ++ [(l, cl)]).length = L.length + 1 := by simp
  have d5 : DRow w5 Bd w5.heap.size (.slice (some ⟨g', 0, none⟩) (L.length + 1) cap') (L ++ [(l, cl)]) := by
    refine ⟨_, by rw [hlen]; exact ow5, ni5, fun g hg => (ow5.lt g hg).2, fun j hj => ?_⟩
    rw [hlen] at hj
    by_cases e : j = L.length
    · subst e
      rw [getD_end]
      refine ⟨pl, nl, cll, ?_, ?_, (hpl.grown gr5 ni1).below (Below.refl _ _) hs5⟩
      · rw [List.getElem?_append_right (by omega), ow1]; simp
      · rw [List.getElem?_append_right (by omega), ow1]; simp
    · obtain ⟨p, n, c, a1, a2, a3⟩ := sp j (by omega)
      rw [getD_lt _ _ _ (by omega)]
      refine ⟨p, n, c, ?_, ?_, (a3.grown gr5 ni1).below (Below.refl _ _) (by omega)⟩
      · rw [List.getElem?_append_left (by omega)]; exact a1
      · rw [List.getElem?_append_left (by omega)]; exact a2
  exact ⟨w5.heap.size, ⟨_, _, _, rfl⟩, by omega, Nat.le_refl _, World.ownsRow_nil _ _ _ _, d5⟩
/-- points more -/
theorem RTr.more {w w1 : World} {Bd Bn : Nat} {vd v' : Value} {r : RS} {l : List Pt} (hv : ∃ p n c, vd = .slice p n c) (h1 : Bd ≤ Bn) (h2 : Bn ≤ w.heap.size) (hd : DRow w Bd Bn vd r.out) (hb : Below Bn w w1) (ho : w1.ownsRow Bn 42 2 v' (r.now ++ l).length (rowL (r.now ++ l))) : RTr w1 Bd vd v' ⟨r.out, r.now ++ l⟩ :=
  ⟨Bn, hv, h1, Nat.le_trans h2 hb.size, ho, hd.below hb (Nat.le_refl _)⟩
theorem rowL_app (a b : List Pt) : rowL a ++ rowL b = rowL (a ++ b) := by simp [rowL]
theorem rowL_len (l : List Pt) : (rowL l).length = l.length * 2 := by
  induction l with
  | nil => rfl
  | cons p l ih =>
    have e2 : rowL (p :: l) = .int .i64 p.1 :: .int .i64 p.2 :: rowL l := by simp [rowL]
    rw [e2]
    simp [ih]
    omega
theorem rowL_one (l : List Pt) : ∀ u ∈ rowL l, u.oneCell' = true := by
  intro u hu
  unfold rowL at hu
  obtain ⟨p, _, h⟩ := List.mem_flatMap.1 hu
  simp only [List.mem_cons, List.not_mem_nil, or_false] at h
  rcases h with rfl | rfl <;> rfl
theorem pt_row {w : World} {g off : Nat} {l : List Pt} (h : PtAt w g off l.length (fun k => (l.getD k (0, 0)).1) (fun k => (l.getD k (0, 0)).2)) : ∀ j u, (rowL l)[j]? = some u → w.cell? ((⟨g, off, none⟩ : Addr).add j) = some u := by
  intro j u hu
  have hadd : ∀ i, (⟨g, off, none⟩ : Addr).add i = ⟨g, off + i, none⟩ := by intro i; unfold Addr.add; split <;> simp_all
  have hj : j < (rowL l).length := by
    apply Classical.byContradiction
    intro hn
    rw [List.getElem?_eq_none (by omega)] at hu
    cases hu
  rw [rowL_len] at hj
  have hq : j / 2 < l.length := by omega
  obtain ⟨c1, c2⟩ := h (j / 2) hq
  obtain ⟨r1, r2⟩ := rowL_get l (j / 2) hq
  rw [hadd]
  rcases Nat.mod_two_eq_zero_or_one j with h2 | h2
  · have e : j / 2 * 2 = j := by omega
    rw [e] at c1 r1
    rw [r1] at hu
    rw [← Option.some.inj hu]
    exact c1
  · have e : j / 2 * 2 + 1 = j := by omega
    rw [e] at r2
    rw [r2] at hu
    rw [← Option.some.inj hu]
    have e2 : off + j / 2 * 2 + 1 = off + j := by omega
    rw [e2] at c2
    exact c2
/-- at a step of a region: points behind a row of ours -/
theorem step_pts {ops : Array Oper} {o : Oper} {a : Act} {K : Act → World → Prop} {Q : Exit → Act → World → Prop} {E : Prop} {w0 : World} (hgd : o.guard = none) (s x : Operand)
    (ho : o.op = .call { callee := .builtin .append, args := #[s, x], argTypes := #[54, 54] })
    (base : Nat) (i : TypeInfo) (hi : Try.prog.info? 42 = some i) (hz : i.zero = some (.agg #[.int .i64 0, .int .i64 0])) (hsize : i.size = 2) (hby : i.bytes = 16)
    (v : Value) (r l : List Pt) (hs : a.eval s = v) (hown : w0.ownsRow base 42 2 v r.length (rowL r)) (vx : Value)
    (hx : a.eval x = vx) (hl : LnV w0 vx l) (hnil : l = [] → vx = .slice none 0 0) (hlen : r.length + l.length ≤ 100000) (hbase : base ≤ w0.heap.size)
    (h : ∀ v' w', w'.ownsRow base 42 2 v' (r ++ l).length (rowL (r ++ l)) → Below base w0 w' → w0.grownBy w' v.ownBlock → K (a.put o.dst v') w') :
    if Region.wanted o (yielded ops a.tmps) = true then Oper.wp Try.prog o a w0 K Q else E := by
  have hw : Region.wanted o (yielded ops a.tmps) = true := by simp [Region.wanted, hgd]
  rw [if_pos hw]
  by_cases h0 : l = []
  · have hv := hnil h0
    subst h0
    subst hv
    have hrun := run_append_owned_none (P := Try.prog) (w := w0) base 54 o.type 42 i 2 Try.underlying54 hi v r.length (rowL r) hown
    unfold Oper.wp
    simp only [execOp, ho, resolve, invoke, builtin, hs, hx, hrun, Result.andThen, Sem.run_bind, Sem.run_pure, List.map_toArray, List.map_cons, List.map_nil]
    exact h v w0 (by simpa using hown) (Below.refl _ _) ⟨rfl, rfl, rfl, Nat.le_refl _, fun _ _ _ => rfl⟩
  · obtain ⟨ad, cap, rfl, hn, hc⟩ := hl
    have hpos : 0 < l.length := List.length_pos_iff.2 h0
    obtain ⟨g, off, rfl, hp⟩ := hc hpos
    refine wp_append_own (w := w0) s x 54 ho base 42 i (.agg #[.int .i64 0, .int .i64 0]) 2 16 Try.underlying54 hi hz hsize hby rfl (by decide) v r.length (rowL r) hs hown ⟨g, off, none⟩ l.length cap (rowL l) hx (by rw [rowL_len]) (pt_row hp) (rowL_one l) (by unfold maxLen; omega) (by omega) hbase fun v' w' h2 h3 _ => ?_
    refine h v' w' (by rw [List.length_append, ← rowL_app]; exact h2) ?_ h3
    exact (Below.refl base w0).grown h3 hbase (fun k hk => (hown.lt k hk).1)
/-- where one is, and a step -/
def C9 (W : World) (G g o : Nat) (x y f0 f1 f2 f3 f4 f5 f6 : Int) : Prop := W.cell? ⟨G, 0, none⟩ = some (.int .i64 x) ∧ W.cell? ⟨G, 1, none⟩ = some (.int .i64 y) ∧ W.cell? ⟨g, o, none⟩ = some (.int .i64 f0) ∧ W.cell? ⟨g, o + 1, none⟩ = some (.int .i64 f1) ∧ W.cell? ⟨g, o + 2, none⟩ = some (.int .i64 f2) ∧ W.cell? ⟨g, o + 3, none⟩ = some (.int .i64 f3) ∧ W.cell? ⟨g, o + 4, none⟩ = some (.int .i64 f4) ∧ W.cell? ⟨g, o + 5, none⟩ = some (.int .i64 f5) ∧ W.cell? ⟨g, o + 6, none⟩ = some (.int .i64 f6)
section
variable {W W1 : World} {G g o : Nat} {x y f0 f1 f2 f3 f4 f5 f6 : Int}
theorem C9.cells (h : C9 W G g o x y f0 f1 f2 f3 f4 f5 f6) : W.cell? ⟨G, 0, none⟩ = some (.int .i64 x) ∧ W.cell? ⟨G, 1, none⟩ = some (.int .i64 y) ∧ W.cell? ⟨g, o, none⟩ = some (.int .i64 f0) ∧ W.cell? ⟨g, o + 1, none⟩ = some (.int .i64 f1) ∧ W.cell? ⟨g, o + 2, none⟩ = some (.int .i64 f2) ∧ W.cell? ⟨g, o + 3, none⟩ = some (.int .i64 f3) ∧ W.cell? ⟨g, o + 4, none⟩ = some (.int .i64 f4) ∧ W.cell? ⟨g, o + 5, none⟩ = some (.int .i64 f5) ∧ W.cell? ⟨g, o + 6, none⟩ = some (.int .i64 f6) := h
theorem C9.drew (h : C9 W G g o x y f0 f1 f2 f3 f4 f5 f6) : C9 W.drew G g o x y f0 f1 f2 f3 f4 f5 f6 := h
theorem C9.later (h : C9 W G g o x y f0 f1 f2 f3 f4 f5 f6) (hb : Below W.heap.size W W1) : C9 W1 G g o x y f0 f1 f2 f3 f4 f5 f6 :=
  ⟨cell_later hb h.1, cell_later hb h.2.1, cell_later hb h.2.2.1, cell_later hb h.2.2.2.1, cell_later hb h.2.2.2.2.1, cell_later hb h.2.2.2.2.2.1, cell_later hb h.2.2.2.2.2.2.1, cell_later hb h.2.2.2.2.2.2.2.1, cell_later hb h.2.2.2.2.2.2.2.2⟩
theorem C9.grown (h : C9 W G g o x y f0 f1 f2 f3 f4 f5 f6) {v : Value} (hg : W.grownBy W1 v.ownBlock) (h1 : some G ≠ v.ownBlock) (h2 : some g ≠ v.ownBlock) : C9 W1 G g o x y f0 f1 f2 f3 f4 f5 f6 :=
  ⟨hg.cell h.1 h1, hg.cell h.2.1 h1, hg.cell h.2.2.1 h2, hg.cell h.2.2.2.1 h2, hg.cell h.2.2.2.2.1 h2, hg.cell h.2.2.2.2.2.1 h2, hg.cell h.2.2.2.2.2.2.1 h2, hg.cell h.2.2.2.2.2.2.2.1 h2, hg.cell h.2.2.2.2.2.2.2.2 h2⟩
end
theorem Sts.step {w W : World} {a : Option Addr} {n k : Nat} {F : Nat → Nat → Int} (h : 0 < n → ∃ g off, a = some ⟨g, off, none⟩ ∧ ∀ j, j < n → ∀ t, t < 7 → w.cell? ⟨g, off + j * 7 + t, none⟩ = some (.int .i64 (F j t))) (hk : k < n) (hb : Below w.heap.size w W) {G : Nat} {x y : Int} (hG : BxAt W G [.int .i64 x, .int .i64 y]) :
    ∃ g o, a = some ⟨g, o, none⟩ ∧ g < w.heap.size ∧ C9 W G g (o + k * 7) x y (F k 0) (F k 1) (F k 2) (F k 3) (F k 4) (F k 5) (F k 6) := by
  obtain ⟨g, off, e, hp⟩ := h (by omega)
  have c : ∀ t, t < 7 → W.cell? ⟨g, off + k * 7 + t, none⟩ = some (.int .i64 (F k t)) := fun t ht => cell_later hb (hp k hk t ht)
  exact ⟨g, off, e, World.block_lt_of_cell? w _ (hp k hk 0 (by omega)), hG.2.2 0 _ rfl, hG.2.2 1 _ rfl, c 0 (by omega), c 1 (by omega), c 2 (by omega), c 3 (by omega), c 4 (by omega), c 5 (by omega), c 6 (by omega)⟩
end Go.Proofs.Ythglgempbdaikaa
namespace Go.Proofs.Ythglgempbdaikaa
open Go.RowKit

/-- what the finish of a round leaves: none (i: a step that ends no line), or the line's end -/
def RS.end (r : RS) (k : Option Bool) : RS := match k with
  | none => r
  | some c => r.fin c
theorem RS.fin_yes {r : RS} {c : Bool} (h : 1 < (lineO r.now c).length) : r.fin c = ⟨r.out ++ [(lineO r.now c, c)], []⟩ := by unfold RS.fin; rw [if_pos h]
theorem RS.fin_no {r : RS} {c : Bool} (h : ¬ 1 < (lineO r.now c).length) : r.fin c = ⟨r.out, []⟩ := by unfold RS.fin; rw [if_neg h]
set_option maxRecDepth 100000 in
set_option maxHeartbeats 6400000 in
theorem rtrace_any (sv : Value) (n : Nat) (F : Nat → Nat → Int) (w : World) (h : Sts w sv n F) : Calls Try.prog 12 #[sv] w (TracePost F n w) := by
  have CK := Lib.hid (rcheck_any sv n F w h)
  obtain ⟨i0, hi, hz0, hz1, hz2⟩ := info_parts Try.info56
  obtain ⟨j0, hj, hy0, hy1, hy2⟩ := info_parts Try.info42
  obtain ⟨a, cap, rfl, hn, hc⟩ := h
  have C := Lib.hid hc
  clear hc
  obtain ⟨ce, hce⟩ : ∃ ce, ce = checkE F n := ⟨_, rfl⟩
  rw [← hce] at CK
  have CE := Lib.hid hce
  have CB : Hid (ce = 0 → n ≤ 200 ∧ chk F n = 0) := Lib.hid (fun h0 => by
    rw [hce] at h0
    unfold checkE at h0
    split at h0
    · cases h0
    · exact ⟨by omega, h0⟩)
  clear hce
  go_enter Try.func12, Try.ntmps12
  go_wp2_with fail
  refine CK.out.mono ?_
  rintro e w1 ⟨rfl, hb1⟩
  have B1 := Lib.hid hb1
  clear hb1
  by_cases h0 : ce = 0
  · obtain ⟨hn2, hchk⟩ := CB.out h0
    have CH := Lib.hid hchk
    have RT := Lib.hid (ref_trace hchk)
    have CE0 := Lib.hid h0
    subst h0
    clear hchk
    have R1 := Lib.hid (RTr.start w1)
    obtain ⟨Bd, hBd⟩ : ∃ B, B = w1.heap.size := ⟨_, rfl⟩
    have BD := Lib.hid hBd
    rw [← hBd] at R1
    have WB : Hid (w.heap.size ≤ Bd) := Lib.hid (by rw [hBd]; exact B1.out.size)
    clear hBd
    go_wp2_with fail
    go_loopw [5, 6, 7] (fun vd vn i wr => ∃ k : Nat, k ≤ n + 1 ∧ i = .int .i64 k ∧ (∃ r, RTr wr Bd vd vn r ∧ r.out.length ≤ k + 1 ∧ (k ≤ n → r = refT F k) ∧ (k = n + 1 → r.out = traceL F n)) ∧ Below w.heap.size w wr) (fun _ _ i _ => n + 1 - (intOf i).toNat)
    case atStart => exact ⟨0, by omega, rfl, ⟨_, R1.out, by simp, fun _ => rfl, fun h => by omega⟩, B1.out⟩
    case round =>
      obtain ⟨k, hk, rfl, ⟨r, hr, hrl, hr1, hr2⟩, hb⟩ := hrel
      have RR := Lib.hid hr
      have R1' := Lib.hid (And.intro hr1 hr2)
      have B := Lib.hid hb
      clear hr hb hr1 hr2 R1 B1
      by_cases hlt : k ≤ n
      · have hkn : (k : Int) ≤ (n : Int) := by omega
        have ER := Lib.hid (R1'.out.1 hlt)
        obtain ⟨f0, hf0⟩ : ∃ x, x = F k 0 := ⟨_, rfl⟩
        have C0 : Hid (k < n → ∃ g off, a = some ⟨g, off, none⟩ ∧ ∀ W, Below w.heap.size w W → W.cell? ⟨g, off + k * 7, none⟩ = some (.int .i64 f0)) := Lib.hid (fun h => by
          obtain ⟨g, off, e, hp⟩ := C.out (by omega)
          refine ⟨g, off, e, fun W hW => ?_⟩
          have := cell_later hW (hp k h 0 (by omega))
          rw [Nat.add_zero] at this
          rw [hf0]; exact this)
        have F0 := Lib.hid hf0
        clear hf0
        obtain ⟨b, hb⟩ : ∃ b, b = decide (k = n ∨ f0 = 1 ∨ f0 = 5) := ⟨_, rfl⟩
        obtain ⟨c, hc⟩ : ∃ c, c = decide (k < n ∧ f0 = 5) := ⟨_, rfl⟩
        obtain ⟨r', hr'⟩ : ∃ r', r' = if b = true then r.fin c else r := ⟨_, rfl⟩
        have RP := Lib.hid hr'
        have RQ : Hid ((k < n → r' = r.pre (F k)) ∧ (k = n → r' = r.fin false) ∧ r'.out.length ≤ k + 2 ∧ r'.now.length ≤ r.now.length) := Lib.hid (by
          have e1 := F0.out
          refine ⟨fun h => ?_, fun h => ?_, ?_, ?_⟩
          · rw [hr', hb, hc]
            unfold RS.pre
            rw [← e1]
            by_cases h1 : f0 = 1
            · simp [h1]
            · by_cases h5 : f0 = 5
              · simp [h5, h]
              · have : ¬ k = n := by omega
                simp [h1, h5, this]
          · rw [hr', hb, hc]
            have : ¬ k < n := by omega
            simp [h]
          · have := rs_fin_len r c
            rw [hr']
            split <;> omega
          · rw [hr']
            split
            · exact Nat.zero_le _
            · exact Nat.le_refl _)
        have HB := Lib.hid hb
        have HC := Lib.hid hc
        clear hr' hb hc
        go_upto_region 9 with fail
        go_cut [41] (fun s wx => s = .bool b ∧ wx = wr)
        case first =>
          have hcase : ((k : Int) == (n : Int)) = true ∧ b = true ∨ (∃ g off, a = some ⟨g, off, none⟩ ∧ wr.cell? ⟨g, off + k * 7, none⟩ = some (.int .i64 f0) ∧ (k : Int) < (n : Int) ∧ k < n ∧ ((k : Int) == (n : Int)) = false ∧ ((f0 == 1) = true ∧ b = true ∨ (f0 == 1) = false ∧ (f0 == 5) = true ∧ b = true ∨ (f0 == 1) = false ∧ (f0 == 5) = false ∧ b = false)) := by
            by_cases hkn2 : k = n
            · exact Or.inl ⟨by simp [hkn2], by rw [HB.out]; simp [hkn2]⟩
            · obtain ⟨g, off, e, hW⟩ := C0.out (by omega)
              refine Or.inr ⟨g, off, e, hW wr B.out, by omega, by omega, beq_eq_false_iff_ne.2 (by omega), ?_⟩
              by_cases h1 : f0 = 1
              · exact Or.inl ⟨by simp [h1], by rw [HB.out]; simp [h1]⟩
              · by_cases h5 : f0 = 5
                · exact Or.inr (Or.inl ⟨by simpa using h1, by simp [h5], by rw [HB.out]; simp [h5]⟩)
                · exact Or.inr (Or.inr ⟨by simpa using h1, by simpa using h5, by rw [HB.out]; simp [h1, h5, hkn2]⟩)
          clear RP RQ HB HC
          rcases hcase with ⟨e1, rfl⟩ | ⟨g, off, rfl, c0, hk1, hk2, e1, ⟨e2, rfl⟩ | ⟨e2, e3, rfl⟩ | ⟨e2, e3, rfl⟩⟩
          all_goals
            go_wp2_with fail
            go_meet
            exact ⟨rfl, rfl⟩
        case rest =>
          obtain ⟨rfl, rfl⟩ := hcut
          go_upto_if 41 with fail
          go_cut [5, 6] (fun vd vn wx => RTr wx Bd vd vn r' ∧ Below w.heap.size w wx)
          case first =>
            cases hbb : b
            · rw [hbb] at RP
              have e : r' = r := by rw [RP.out]; rfl
              have FIN : Hid (RTr wc Bd u5 u6 r') := Lib.hid (by rw [e]; exact RR.out)
              clear e hbb
              go_wp2_with fail
              go_meet
              exact ⟨FIN.out, B.out⟩
            · rw [hbb] at RP HB
              have RF : Hid (r' = r.fin c) := Lib.hid (by rw [RP.out]; rfl)
              clear hbb
              have hnow : r.now.length ≤ 32 * k := by rw [ER.out]; exact (refT_len F k).1
              obtain ⟨Bn, ⟨pd, nd, cd, rfl⟩, h1, h2, own, hD⟩ := RR.out
              have LV := Lib.hid (own_lnv own (by omega))
              obtain ⟨pn, cn, rfl⟩ := own_form own
              obtain ⟨cs, od, nid, ltd, spd⟩ := hD
              have CSL : Hid (cs.length = r.out.length * 2) := Lib.hid od.1
              have OD := Lib.hid od
              have NI := Lib.hid nid
              have SP := Lib.hid spd
              have LC := Lib.hid (fun W hW => line_any (.slice pn r.now.length cn) r.now c W (by omega) hW)
              have BW : Hid (w.heap.size ≤ wc.heap.size) := Lib.hid B.out.size
              clear own od nid spd ltd
              have hcase : ((decide ((k : Int) < (n : Int)) = false ∧ ¬ (k : Int) < (n : Int) ∧ ¬ k < n) ∧ c = false) ∨ (∃ g off, a = some ⟨g, off, none⟩ ∧ wc.cell? ⟨g, off + k * 7, none⟩ = some (.int .i64 f0) ∧ (k : Int) < (n : Int) ∧ decide ((k : Int) < (n : Int)) = true ∧ k < n ∧ ((f0 == 5) = true ∧ c = true ∨ (f0 == 5) = false ∧ c = false)) := by
                by_cases hkn2 : k < n
                · obtain ⟨g, off, e, hW⟩ := C0.out (by omega)
                  refine Or.inr ⟨g, off, e, hW wc B.out, by omega, decide_eq_true (by omega), by omega, ?_⟩
                  by_cases h5 : f0 = 5
                  · exact Or.inl ⟨by simp [h5], by rw [HC.out]; simp [h5, hkn2]⟩
                  · exact Or.inr ⟨by simpa using h5, by rw [HC.out]; simp [h5]⟩
                · exact Or.inl ⟨⟨decide_eq_false (by omega), by omega, by omega⟩, by rw [HC.out]; simp [hkn2]⟩
              have RD := Lib.hid RR.out
              clear RP RQ HB HC RR
              obtain ⟨L, hL⟩ : ∃ L, L = lineO r.now c := ⟨_, rfl⟩
              have LC2 : Hid (∀ W, LnV W (.slice pn r.now.length cn) r.now → Calls Try.prog 25 #[.slice pn r.now.length cn, .bool c] W (fun e W' => Below W.heap.size W W' ∧ ∃ p n cp, e = .returned (.tuple #[.agg #[.slice p n cp, .bool c], .bool (decide (1 < (L.length : Int)))]) ∧ (1 < L.length → PLn W' W.heap.size W'.heap.size (.slice p n cp) L))) := Lib.hid (fun W hW => by rw [hL]; exact LC.out W hW)
              have RY : Hid (1 < L.length → r' = ⟨r.out ++ [(L, c)], []⟩) := Lib.hid (fun h => by rw [RF.out, hL]; exact RS.fin_yes (by rw [← hL]; exact h))
              have RN : Hid (¬ 1 < L.length → r' = ⟨r.out, []⟩) := Lib.hid (fun h => by rw [RF.out]; exact RS.fin_no (by rw [← hL]; exact h))
              clear hL LC RF
              obtain ⟨m, hm⟩ : ∃ m, m = L.length := ⟨_, rfl⟩
              rw [← hm] at LC2 RY RN
              clear hm
              rcases hcase with ⟨⟨e1, e3, e4⟩, rfl⟩ | ⟨g, off, rfl, c0, hk1, e1, hk2, ⟨e2, rfl⟩ | ⟨e2, rfl⟩⟩
              · go_wp2_with fail
                refine (LC2.out wc LV.out).mono ?_
                rintro e w3 ⟨hb3, pl, nl, cl, rfl, hpl⟩
                by_cases hm1 : 1 < m
                · have hdm : decide (1 < (m : Int)) = true := decide_eq_true (by omega)
                  have RE := Lib.hid (RY.out hm1)
                  have PL3 := Lib.hid (hpl hm1)
                  have B3 := Lib.hid hb3
                  rw [hdm]
                  obtain ⟨w4, hw4⟩ : ∃ w4, w4 = w3.alloc (.cells #[.slice pl nl cl, .bool false] 56) := ⟨_, rfl⟩
                  have b34 : Below w3.heap.size w3 w4 := by rw [hw4]; exact below_alloc _ _
                  have b4 : Below wc.heap.size wc w4 := bthen hb3 b34
                  have OD4 := Lib.hid (own_later OD.out b4)
                  have NI4 : Hid (NoInt w4 (.slice pd nd cd)) := Lib.hid (fun z hz j u hu => by
                    rw [b4.cell (p := ⟨z, j, none⟩) (OD.out.lt z hz).2] at hu
                    exact NI.out z hz j u hu)
                  have SP4 : Hid (∀ j, j < r.out.length → ∃ p n c, cs[j * 2]? = some (.slice p n c) ∧ cs[j * 2 + 1]? = some (.bool (r.out.getD j ([], false)).2) ∧ PLn w4 Bd Bn (.slice p n c) (r.out.getD j ([], false)).1) := Lib.hid (fun j hj => by
                    obtain ⟨p, n, c, e1, e2, e3⟩ := SP.out j hj
                    exact ⟨p, n, c, e1, e2, e3.below (b4.mono h2) (Nat.le_refl _)⟩)
                  have PL4 : Hid (PLn w4 Bd w4.heap.size (.slice pl nl cl) L) := Lib.hid (by
                    obtain ⟨gg, oo, cc, e1, e2, e3, e4⟩ := PL3.out
                    exact ⟨gg, oo, cc, e1, by omega, Nat.lt_of_lt_of_le e3 b34.size, e4.later b34⟩)
                  have HB4 : Hid (Bd ≤ w4.heap.size ∧ Bn ≤ w4.heap.size) := Lib.hid ⟨by have := b4.size; omega, by have := b4.size; omega⟩
                  have BW4 := Lib.hid (bthen B.out b4)
                  have hw4b : w3.alloc (.cells #[.slice pl nl cl, .bool false] 56) = w4 := hw4.symm
                  have W4 := Lib.hid hw4b
                  have S4 : Hid (w4.heap.size = w3.heap.size + 1) := Lib.hid (by rw [hw4]; simp)
                  clear hpl hb3 LC2 RY RN hdm hw4 b34 b4 hw4b
                  go_wp2_with (at_builtin; rw [W4.out]; go_loud (refine wpList_nia (w0 := w4) rfl (.tmp 60) (.tmp 62) 22 rfl Bd 56 i0 (.agg #[.slice none 0 0, .bool false]) 2 32 [.slice pl nl cl, .bool false] Try.underlying22 hi hz0 hz1 hz2 rfl rfl (by decide) _ _ _ rfl OD4.out (by rw [S4.out]; rfl) (by simp [Value.oneCell']) ?c1 ?c2 HB4.out.1 NI4.out ni2 ni2 ?_))
                  case c1 => unfold maxLen; omega
                  case c2 => omega
                  intro g' cap' w5 ow5 hb5 gr5 ni5 gl5
                  have FIN : Hid (RTr w5 Bd (.slice (some ⟨g', 0, none⟩) (r.out.length + 1) cap') (.slice none 0 0) r') := Lib.hid (by
                    rw [RE.out]
                    exact RTr.line h1 HB4.out.2 CSL.out ow5 gr5 ni5 NI4.out SP4.out PL4.out)
                  have B5 := Lib.hid (BW4.out.trans (hb5.mono WB.out))
                  clear ow5 hb5 gr5 ni5 gl5
                  go_wp2_with fail
                  go_meet
                  exact ⟨FIN.out, B5.out⟩
                · have hdm : decide (1 < (m : Int)) = false := decide_eq_false (by omega)
                  have RE := Lib.hid (RN.out hm1)
                  have B3 := Lib.hid hb3
                  rw [hdm]
                  clear hpl hb3 LC2 RY RN hdm
                  obtain ⟨w4, hw4⟩ : ∃ w4, w4 = w3.alloc (.cells #[.slice pl nl cl, .bool false] 56) := ⟨_, rfl⟩
                  have b4 : Below wc.heap.size wc w4 := by rw [hw4]; exact bthen B3.out (below_alloc _ _)
                  have BW4 := Lib.hid (bthen B.out b4)
                  have FIN : Hid (RTr w4 Bd (.slice pd nd cd) (.slice none 0 0) r') := Lib.hid (by rw [RE.out]; exact (RD.out.later b4).drop)
                  have W4 := Lib.hid hw4
                  clear hw4 b4
                  go_wp2_with fail
                  rw [← W4.out]
                  go_meet
                  exact ⟨FIN.out, BW4.out⟩
              · go_wp2_with fail
                refine (LC2.out wc LV.out).mono ?_
                rintro e w3 ⟨hb3, pl, nl, cl, rfl, hpl⟩
                by_cases hm1 : 1 < m
                · have hdm : decide (1 < (m : Int)) = true := decide_eq_true (by omega)
                  have RE := Lib.hid (RY.out hm1)
                  have PL3 := Lib.hid (hpl hm1)
                  have B3 := Lib.hid hb3
                  rw [hdm]
                  obtain ⟨w4, hw4⟩ : ∃ w4, w4 = w3.alloc (.cells #[.slice pl nl cl, .bool true] 56) := ⟨_, rfl⟩
                  have b34 : Below w3.heap.size w3 w4 := by rw [hw4]; exact below_alloc _ _
                  have b4 : Below wc.heap.size wc w4 := bthen hb3 b34
                  have OD4 := Lib.hid (own_later OD.out b4)
                  have NI4 : Hid (NoInt w4 (.slice pd nd cd)) := Lib.hid (fun z hz j u hu => by
                    rw [b4.cell (p := ⟨z, j, none⟩) (OD.out.lt z hz).2] at hu
                    exact NI.out z hz j u hu)
                  have SP4 : Hid (∀ j, j < r.out.length → ∃ p n c, cs[j * 2]? = some (.slice p n c) ∧ cs[j * 2 + 1]? = some (.bool (r.out.getD j ([], false)).2) ∧ PLn w4 Bd Bn (.slice p n c) (r.out.getD j ([], false)).1) := Lib.hid (fun j hj => by
                    obtain ⟨p, n, c, e1, e2, e3⟩ := SP.out j hj
                    exact ⟨p, n, c, e1, e2, e3.below (b4.mono h2) (Nat.le_refl _)⟩)
                  have PL4 : Hid (PLn w4 Bd w4.heap.size (.slice pl nl cl) L) := Lib.hid (by
                    obtain ⟨gg, oo, cc, e1, e2, e3, e4⟩ := PL3.out
                    exact ⟨gg, oo, cc, e1, by omega, Nat.lt_of_lt_of_le e3 b34.size, e4.later b34⟩)
                  have HB4 : Hid (Bd ≤ w4.heap.size ∧ Bn ≤ w4.heap.size) := Lib.hid ⟨by have := b4.size; omega, by have := b4.size; omega⟩
                  have BW4 := Lib.hid (bthen B.out b4)
                  have hw4b : w3.alloc (.cells #[.slice pl nl cl, .bool true] 56) = w4 := hw4.symm
                  have W4 := Lib.hid hw4b
                  have S4 : Hid (w4.heap.size = w3.heap.size + 1) := Lib.hid (by rw [hw4]; simp)
                  clear hpl hb3 LC2 RY RN hdm hw4 b34 b4 hw4b
                  go_wp2_with (at_builtin; rw [W4.out]; go_loud (refine wpList_nia (w0 := w4) rfl (.tmp 60) (.tmp 62) 22 rfl Bd 56 i0 (.agg #[.slice none 0 0, .bool false]) 2 32 [.slice pl nl cl, .bool true] Try.underlying22 hi hz0 hz1 hz2 rfl rfl (by decide) _ _ _ rfl OD4.out (by rw [S4.out]; rfl) (by simp [Value.oneCell']) ?c1 ?c2 HB4.out.1 NI4.out ni2 ni2 ?_))
                  case c1 => unfold maxLen; omega
                  case c2 => omega
                  intro g' cap' w5 ow5 hb5 gr5 ni5 gl5
                  have FIN : Hid (RTr w5 Bd (.slice (some ⟨g', 0, none⟩) (r.out.length + 1) cap') (.slice none 0 0) r') := Lib.hid (by
                    rw [RE.out]
                    exact RTr.line h1 HB4.out.2 CSL.out ow5 gr5 ni5 NI4.out SP4.out PL4.out)
                  have B5 := Lib.hid (BW4.out.trans (hb5.mono WB.out))
                  clear ow5 hb5 gr5 ni5 gl5
                  go_wp2_with fail
                  go_meet
                  exact ⟨FIN.out, B5.out⟩
                · have hdm : decide (1 < (m : Int)) = false := decide_eq_false (by omega)
                  have RE := Lib.hid (RN.out hm1)
                  have B3 := Lib.hid hb3
                  rw [hdm]
                  clear hpl hb3 LC2 RY RN hdm
                  obtain ⟨w4, hw4⟩ : ∃ w4, w4 = w3.alloc (.cells #[.slice pl nl cl, .bool true] 56) := ⟨_, rfl⟩
                  have b4 : Below wc.heap.size wc w4 := by rw [hw4]; exact bthen B3.out (below_alloc _ _)
                  have BW4 := Lib.hid (bthen B.out b4)
                  have FIN : Hid (RTr w4 Bd (.slice pd nd cd) (.slice none 0 0) r') := Lib.hid (by rw [RE.out]; exact (RD.out.later b4).drop)
                  have W4 := Lib.hid hw4
                  clear hw4 b4
                  go_wp2_with fail
                  rw [← W4.out]
                  go_meet
                  exact ⟨FIN.out, BW4.out⟩
              · go_wp2_with fail
                refine (LC2.out wc LV.out).mono ?_
                rintro e w3 ⟨hb3, pl, nl, cl, rfl, hpl⟩
                by_cases hm1 : 1 < m
                · have hdm : decide (1 < (m : Int)) = true := decide_eq_true (by omega)
                  have RE := Lib.hid (RY.out hm1)
                  have PL3 := Lib.hid (hpl hm1)
                  have B3 := Lib.hid hb3
                  rw [hdm]
                  obtain ⟨w4, hw4⟩ : ∃ w4, w4 = w3.alloc (.cells #[.slice pl nl cl, .bool false] 56) := ⟨_, rfl⟩
                  have b34 : Below w3.heap.size w3 w4 := by rw [hw4]; exact below_alloc _ _
                  have b4 : Below wc.heap.size wc w4 := bthen hb3 b34
                  have OD4 := Lib.hid (own_later OD.out b4)
                  have NI4 : Hid (NoInt w4 (.slice pd nd cd)) := Lib.hid (fun z hz j u hu => by
                    rw [b4.cell (p := ⟨z, j, none⟩) (OD.out.lt z hz).2] at hu
                    exact NI.out z hz j u hu)
                  have SP4 : Hid (∀ j, j < r.out.length → ∃ p n c, cs[j * 2]? = some (.slice p n c) ∧ cs[j * 2 + 1]? = some (.bool (r.out.getD j ([], false)).2) ∧ PLn w4 Bd Bn (.slice p n c) (r.out.getD j ([], false)).1) := Lib.hid (fun j hj => by
                    obtain ⟨p, n, c, e1, e2, e3⟩ := SP.out j hj
                    exact ⟨p, n, c, e1, e2, e3.below (b4.mono h2) (Nat.le_refl _)⟩)
                  have PL4 : Hid (PLn w4 Bd w4.heap.size (.slice pl nl cl) L) := Lib.hid (by
                    obtain ⟨gg, oo, cc, e1, e2, e3, e4⟩ := PL3.out
                    exact ⟨gg, oo, cc, e1, by omega, Nat.lt_of_lt_of_le e3 b34.size, e4.later b34⟩)
                  have HB4 : Hid (Bd ≤ w4.heap.size ∧ Bn ≤ w4.heap.size) := Lib.hid ⟨by have := b4.size; omega, by have := b4.size; omega⟩
                  have BW4 := Lib.hid (bthen B.out b4)
                  have hw4b : w3.alloc (.cells #[.slice pl nl cl, .bool false] 56) = w4 := hw4.symm
                  have W4 := Lib.hid hw4b
                  have S4 : Hid (w4.heap.size = w3.heap.size + 1) := Lib.hid (by rw [hw4]; simp)
                  clear hpl hb3 LC2 RY RN hdm hw4 b34 b4 hw4b
                  go_wp2_with (at_builtin; rw [W4.out]; go_loud (refine wpList_nia (w0 := w4) rfl (.tmp 60) (.tmp 62) 22 rfl Bd 56 i0 (.agg #[.slice none 0 0, .bool false]) 2 32 [.slice pl nl cl, .bool false] Try.underlying22 hi hz0 hz1 hz2 rfl rfl (by decide) _ _ _ rfl OD4.out (by rw [S4.out]; rfl) (by simp [Value.oneCell']) ?c1 ?c2 HB4.out.1 NI4.out ni2 ni2 ?_))
                  case c1 => unfold maxLen; omega
                  case c2 => omega
                  intro g' cap' w5 ow5 hb5 gr5 ni5 gl5
                  have FIN : Hid (RTr w5 Bd (.slice (some ⟨g', 0, none⟩) (r.out.length + 1) cap') (.slice none 0 0) r') := Lib.hid (by
                    rw [RE.out]
                    exact RTr.line h1 HB4.out.2 CSL.out ow5 gr5 ni5 NI4.out SP4.out PL4.out)
                  have B5 := Lib.hid (BW4.out.trans (hb5.mono WB.out))
                  clear ow5 hb5 gr5 ni5 gl5
                  go_wp2_with fail
                  go_meet
                  exact ⟨FIN.out, B5.out⟩
                · have hdm : decide (1 < (m : Int)) = false := decide_eq_false (by omega)
                  have RE := Lib.hid (RN.out hm1)
                  have B3 := Lib.hid hb3
                  rw [hdm]
                  clear hpl hb3 LC2 RY RN hdm
                  obtain ⟨w4, hw4⟩ : ∃ w4, w4 = w3.alloc (.cells #[.slice pl nl cl, .bool false] 56) := ⟨_, rfl⟩
                  have b4 : Below wc.heap.size wc w4 := by rw [hw4]; exact bthen B3.out (below_alloc _ _)
                  have BW4 := Lib.hid (bthen B.out b4)
                  have FIN : Hid (RTr w4 Bd (.slice pd nd cd) (.slice none 0 0) r') := Lib.hid (by rw [RE.out]; exact (RD.out.later b4).drop)
                  have W4 := Lib.hid hw4
                  clear hw4 b4
                  go_wp2_with fail
                  rw [← W4.out]
                  go_meet
                  exact ⟨FIN.out, BW4.out⟩
          case rest =>
            obtain ⟨hrt, hbt⟩ := hcut
            have RT2 := Lib.hid hrt
            have BT := Lib.hid hbt
            have WZ : Hid (w.heap.size ≤ wc.heap.size) := Lib.hid hbt.size
            clear hrt hbt RR B
            by_cases hkn2 : k < n
            · have hk3 : (k : Int) < (n : Int) := by omega
              obtain ⟨ax, hax⟩ : ∃ x, x = (lastP r'.now).1 := ⟨_, rfl⟩
              obtain ⟨ay, hay⟩ : ∃ x, x = (lastP r'.now).2 := ⟨_, rfl⟩
              have PA : Hid (lastP r'.now = (ax, ay)) := Lib.hid (by rw [hax, hay])
              clear hax hay
              have hcase : (∃ (m q : Nat) (p : Option Addr) (cn : Nat), u6 = .slice p m cn ∧ m = r'.now.length ∧ ((m = 0 ∧ ax = 0 ∧ ay = 0) ∨ (∃ g, p = some ⟨g, 0, none⟩ ∧ (m : Int) - 1 = (q : Int) ∧ (0 < m ∧ g < wc.heap.size) ∧ q < m ∧ (q : Int) < (m : Int) ∧ wc.cell? ⟨g, q * 2, none⟩ = some (.int .i64 ax) ∧ wc.cell? ⟨g, q * 2 + 1, none⟩ = some (.int .i64 ay)))) := by
                obtain ⟨Bn, _, h1, h2, own, hD⟩ := RT2.out
                obtain ⟨p, cn, rfl⟩ := own_form own
                refine ⟨r'.now.length, r'.now.length - 1, p, cn, rfl, rfl, ?_⟩
                by_cases h0 : r'.now.length = 0
                · refine Or.inl ⟨h0, ?_⟩
                  have hnil : r'.now = [] := List.eq_nil_of_length_eq_zero h0
                  have e := PA.out
                  rw [hnil] at e
                  exact ⟨(congrArg Prod.fst e).symm, (congrArg Prod.snd e).symm⟩
                · refine Or.inr ?_
                  obtain ⟨g, rfl⟩ := own_some own (by omega)
                  obtain ⟨_, hgs, hp⟩ := own_pts own
                  obtain ⟨d0, d1⟩ := hp (r'.now.length - 1) (by omega)
                  have e : r'.now.getD (r'.now.length - 1) (0, 0) = (ax, ay) := PA.out
                  dsimp only at d0 d1
                  rw [e] at d0 d1
                  rw [Nat.zero_add] at d0 d1
                  exact ⟨g, rfl, by omega, ⟨by omega, hgs⟩, by omega, by omega, d0, d1⟩
              obtain ⟨m, q, pn, cn, rfl, hm, hcase⟩ := hcase
              have HM := Lib.hid hm
              have hm9 : m ≤ 6400 := by have := (refT_len F k).1; rw [← ER.out] at this; have := RQ.out.2.2.2; omega
              clear hm
              go_upto_if 71 with fail
              go_cut [10] (fun s10 wx => ∃ G, s10 = .pointer (some ⟨G, 0, none⟩) ∧ BxAt wx G [.int .i64 ax, .int .i64 ay] ∧ RTr wx Bd u5 (.slice pn m cn) r' ∧ Below w.heap.size w wx ∧ w.heap.size ≤ G ∧ some G ≠ (Value.slice pn m cn).ownBlock)
              case first =>
                have NE : Hid (some wc.heap.size ≠ (Value.slice pn m cn).ownBlock) := Lib.hid (fun e => by
                  obtain ⟨Bn, _, h1, h2, own, hD⟩ := RT2.out
                  have := (own.lt _ e.symm).2
                  omega)
                have FIN : Hid (∀ x y, x = ax → y = ay → ∃ G, (Value.pointer (some ⟨wc.heap.size, 0, none⟩)) = .pointer (some ⟨G, 0, none⟩) ∧ BxAt (wc.alloc (.cells #[.int .i64 x, .int .i64 y] 42)) G [.int .i64 ax, .int .i64 ay] ∧ RTr (wc.alloc (.cells #[.int .i64 x, .int .i64 y] 42)) Bd u5 (.slice pn m cn) r' ∧ Below w.heap.size w (wc.alloc (.cells #[.int .i64 x, .int .i64 y] 42)) ∧ w.heap.size ≤ G ∧ some G ≠ (Value.slice pn m cn).ownBlock) := Lib.hid (by
                  rintro x y rfl rfl
                  exact ⟨_, rfl, BxAt.new wc _ _, RT2.out.later (below_alloc _ _), bthen BT.out (below_alloc _ _), WZ.out, NE.out⟩)
                clear RQ RP ER
                rcases hcase with ⟨hm0, hx0, hy0'⟩ | ⟨g, rfl, e1, ⟨e2, hgs⟩, e3, e4, d0, d1⟩
                · have HX := Lib.hid (And.intro hx0.symm hy0'.symm)
                  clear hx0 hy0'
                  go_wp2_with fail
                  go_meet
                  exact FIN.out 0 0 HX.out.1 HX.out.2
                · have d0 := cell_alloc (.cells #[.int .i64 0, .int .i64 0] 42) d0
                  have d1 := cell_alloc (.cells #[.int .i64 0, .int .i64 0] 42) d1
                  go_wp2_with fail
                  go_meet
                  exact FIN.out ax ay rfl rfl
              case rest =>
                obtain ⟨G, rfl, hG, hR, hB, hG1, hG2⟩ := hcut
                obtain ⟨g, o, rfl, hgw, hC⟩ := Sts.step C.out hkn2 hB hG
                have PTS := Lib.hid (fun W => points_any (ax, ay) (F k) W)
                have RR3 := Lib.hid hR
                have B3 := Lib.hid hB
                obtain ⟨L, hL⟩ : ∃ L, L = refP (ax, ay) (F k) := ⟨_, rfl⟩
                have LL : L.length ≤ 32 := by rw [hL]; exact refP_len _ _
                have NXT : Hid (refT F (k + 1) = ⟨r'.out, r'.now ++ L⟩) := Lib.hid (by
                  show ((refT F k).pre (F k)).go (F k) = _
                  rw [← ER.out, ← RQ.out.1 hkn2, hL, ← PA.out]
                  rfl)
                rw [← hL] at PTS
                have hnow : r'.now.length ≤ 32 * k := by have := (refT_len F k).1; rw [← ER.out] at this; have := RQ.out.2.2.2; omega
                have hout := RQ.out.2.2.1
                obtain ⟨f0', hf0⟩ : ∃ x, x = F k 0 := ⟨_, rfl⟩
                obtain ⟨f1, hf1⟩ : ∃ x, x = F k 1 := ⟨_, rfl⟩
                obtain ⟨f2, hf2⟩ : ∃ x, x = F k 2 := ⟨_, rfl⟩
                obtain ⟨f3, hf3⟩ : ∃ x, x = F k 3 := ⟨_, rfl⟩
                obtain ⟨f4, hf4⟩ : ∃ x, x = F k 4 := ⟨_, rfl⟩
                obtain ⟨f5, hf5⟩ : ∃ x, x = F k 5 := ⟨_, rfl⟩
                obtain ⟨f6, hf6⟩ : ∃ x, x = F k 6 := ⟨_, rfl⟩
                rw [← hf0, ← hf1, ← hf2, ← hf3, ← hf4, ← hf5, ← hf6] at PTS hC
                have C0' := Lib.hid hC
                have NE2 : Hid (some G ≠ (Value.slice pn m cn).ownBlock ∧ some g ≠ (Value.slice pn m cn).ownBlock) := Lib.hid ⟨hG2, fun e => by
                  obtain ⟨Bn, _, h1, h2, own, hD⟩ := RR3.out
                  have := (own.lt _ e.symm).1
                  have := WB.out
                  omega⟩
                clear hL hf0 hf1 hf2 hf3 hf4 hf5 hf6 hC hG hR hB hG1 hG2 hcase RQ RP ER RT2 BT
                have CC := C0'.out
                have k8 : Below wc.heap.size wc wc := Below.refl _ _
                go_wp2_with fail
                go_region_held3 (fun w' => w'.cell? ⟨G, 0, none⟩ = some (.int .i64 ax) ∧ w'.cell? ⟨G, 1, none⟩ = some (.int .i64 ay) ∧ w'.cell? ⟨g, o + k * 7, none⟩ = some (.int .i64 f0') ∧ w'.cell? ⟨g, o + k * 7 + 1, none⟩ = some (.int .i64 f1) ∧ w'.cell? ⟨g, o + k * 7 + 2, none⟩ = some (.int .i64 f2) ∧ w'.cell? ⟨g, o + k * 7 + 3, none⟩ = some (.int .i64 f3) ∧ w'.cell? ⟨g, o + k * 7 + 4, none⟩ = some (.int .i64 f4) ∧ w'.cell? ⟨g, o + k * 7 + 5, none⟩ = some (.int .i64 f5) ∧ w'.cell? ⟨g, o + k * 7 + 6, none⟩ = some (.int .i64 f6))
                  (first | with_reducible exact CC.cells | with_reducible exact CC.drew.cells)
                  (first
                    | (go_at_call 26; (with_reducible refine (PTS.out wc.drew).mono ?_); rintro e v1 ⟨hb, vx, rfl, hl, hnil⟩; have k8 : Below wc.heap.size wc v1 := bel_drew hb; have CC := C0'.out.later k8; obtain ⟨Bn, hv, h1, h2, own, hD⟩ := RR3.out.later k8)
                    | (refine step_pts (w0 := v1) rfl (.tmp 78) (.tmp 84) rfl Bn j0 hj hy0 hy1 hy2 (.slice pn m cn) r'.now L rfl own vx rfl hl hnil (by omega) h2 ?_; intro v' w9 ow9 hb9 gr9; have CC := CC.grown gr9 NE2.out.1 NE2.out.2))
                all_goals
                  have R9 := Lib.hid (RTr.more hv h1 h2 hD hb9 ow9)
                  have B9 := Lib.hid ((bthen B3.out k8).trans (hb9.mono (Nat.le_trans WB.out h1)))
                  clear own hD hb9 gr9 ow9 hl hnil CC
                  go_wp2_with fail
                  go_roundw
                  case rel => exact ⟨k + 1, by omega, by go_num, ⟨⟨r'.out, r'.now ++ L⟩, R9.out, by show r'.out.length ≤ _; omega, fun _ => NXT.out.symm, fun h => by omega⟩, B9.out⟩
                  case measure => (first | (simp [intOf]; done) | (simp [intOf]; omega) | (simp only [intOf]; omega))
            · have hkn3 : k = n := by omega
              have FIN : Hid (RTr wc Bd u5 u6 r' ∧ r'.out.length ≤ k + 1 + 1 ∧ (k + 1 ≤ n → r' = refT F (k + 1)) ∧ (k + 1 = n + 1 → r'.out = traceL F n)) := Lib.hid ⟨RT2.out, RQ.out.2.2.1, fun h => by omega, fun _ => by
                rw [RQ.out.2.1 hkn3, ER.out, hkn3]
                exact RT.out⟩
              have hk9 : ¬ (k : Int) < (n : Int) := by omega
              have hkn4 : k ≤ n := hlt
              clear RQ RP ER
              go_wp2_with fail
              go_roundw
              case rel => exact ⟨k + 1, by omega, by go_num, ⟨_, FIN.out⟩, BT.out⟩
              case measure => (first | (simp [intOf]; done) | (simp [intOf]; omega) | (simp only [intOf]; omega))
      · obtain rfl : k = n + 1 := by omega
        have ER := Lib.hid (R1'.out.2 rfl)
        have LN := Lib.hid (traceL_ok F n hn2)
        obtain ⟨Bn, ⟨pd, nd, cd, rfl⟩, h1, h2, own, hD⟩ := RR.out
        rw [ER.out] at hD
        have LL := Lib.hid (hD.lns LN.out.1 LN.out.2)
        clear hD own R1' RR
        have hk9 : ¬ ((n : Int) + 1 ≤ (n : Int)) := by omega
        have hk10 : ¬ (((n + 1 : Nat) : Int) ≤ (n : Int)) := by omega
        go_wp2_with fail
        refine bodyPost_ret (v := .tuple #[.slice pd nd cd, .int .i64 0]) ?_ rfl ⟨B.out, Or.inr ⟨CE.out.symm, _, rfl, LL.out⟩⟩
        simp [results, Try.results12, go_sem]
  · go_wp2_with fail
    refine bodyPost_ret (v := .tuple #[.slice none 0 0, .int .i64 ce]) ?_ rfl ⟨B1.out, Or.inl ⟨by rw [← CE.out]; exact h0, by rw [← CE.out]⟩⟩
    simp [results, Try.results12, go_sem]
end Go.Proofs.Ythglgempbdaikaa
namespace Go.Proofs.Ythglgempbdaikaa
open Go.RowKit

set_option maxRecDepth 100000 in
set_option maxHeartbeats 6400000 in
theorem rcount_any (sv : Value) (n : Nat) (F : Nat → Nat → Int) (w : World) (h : Sts w sv n F) : Calls Try.prog 14 #[sv] w (CountPost F n w) := by
  have CK := Lib.hid (rcheck_any sv n F w h)
  obtain ⟨a, cap, rfl, hn, hc⟩ := h
  have C := Lib.hid hc
  clear hc
  obtain ⟨ce, hce⟩ : ∃ ce, ce = checkE F n := ⟨_, rfl⟩
  rw [← hce] at CK
  have CE := Lib.hid hce
  have CB : Hid (ce = 0 → n ≤ 200 ∧ chk F n = 0) := Lib.hid (fun h0 => by
    rw [hce] at h0
    unfold checkE at h0
    split at h0
    · cases h0
    · exact ⟨by omega, h0⟩)
  clear hce
  go_enter Try.func14, Try.ntmps14
  go_wp2_with fail
  refine CK.out.mono ?_
  rintro e w1 ⟨rfl, hb1⟩
  have B1 := Lib.hid hb1
  clear hb1
  by_cases h0 : ce = 0
  · obtain ⟨hn2, hchk⟩ := CB.out h0
    have CH := Lib.hid hchk
    have CE0 := Lib.hid h0
    subst h0
    clear hchk
    go_wp2_with fail
    obtain ⟨w2, hw2⟩ : ∃ w2, w2 = w1.alloc (.cells #[.int .i64 0, .int .i64 0] 42) := ⟨_, rfl⟩
    rw [← hw2]
    obtain ⟨G, hG⟩ : ∃ G, G = w1.heap.size := ⟨_, rfl⟩
    rw [← hG]
    have G2 : Hid (BxAt w2 G [.int .i64 0, .int .i64 0]) := Lib.hid (by rw [hw2, hG]; exact BxAt.new w1 _ _)
    have B2 : Hid (Below w.heap.size w w2) := Lib.hid (by rw [hw2]; exact bthen B1.out (below_alloc _ _))
    have ZG : Hid (w.heap.size ≤ G) := Lib.hid (by rw [hG]; exact B1.out.size)
    clear hw2 hG
    go_loopw [5, 7] (fun c i wr => ∃ k : Nat, k ≤ n ∧ i = .int .i64 k ∧ c = .int .i64 (costT F k) ∧ BxAt wr G [.int .i64 (atT F k).1, .int .i64 (atT F k).2] ∧ Below w.heap.size w wr) (fun _ i _ => n - (intOf i).toNat)
    case atStart => exact ⟨0, by omega, rfl, rfl, G2.out, B2.out⟩
    case round =>
      obtain ⟨k, hk, rfl, rfl, hg, hb⟩ := hrel
      have CL := costT_le F k
      by_cases hkn2 : k < n
      · obtain ⟨g, o, rfl, hgw, hC⟩ := Sts.step C.out hkn2 hb hg
        have PTS := Lib.hid (fun W => points_any (atT F k) (F k) W)
        have GG := Lib.hid hg
        have B := Lib.hid hb
        obtain ⟨cs1, cs2⟩ := cost_step CH.out hkn2
        have CS := Lib.hid (And.intro cs1 cs2)
        obtain ⟨L, hL⟩ : ∃ L, L = refP (atT F k) (F k) := ⟨_, rfl⟩
        have LL : L.length ≤ 32 := by rw [hL]; exact refP_len _ _
        have RC : Hid (rcostK (F k) (atT F k) = if F k 0 = 1 then 0 else max 1 L.length) := Lib.hid (by rw [hL]; rfl)
        have RA : Hid (ratK (F k) (atT F k) = if 0 < L.length then lastP L else atT F k) := Lib.hid (by rw [hL]; rfl)
        rw [← hL] at PTS
        obtain ⟨z, hz⟩ : ∃ z, z = costT F k := ⟨_, rfl⟩
        obtain ⟨ax, hax⟩ : ∃ x, x = (atT F k).1 := ⟨_, rfl⟩
        obtain ⟨ay, hay⟩ : ∃ x, x = (atT F k).2 := ⟨_, rfl⟩
        have AE : Hid (atT F k = (ax, ay)) := Lib.hid (by rw [hax, hay])
        rw [← hz] at CL CS ⊢
        rw [← hax, ← hay] at hC GG PTS
        obtain ⟨f0, hf0⟩ : ∃ x, x = F k 0 := ⟨_, rfl⟩
        obtain ⟨f1, hf1⟩ : ∃ x, x = F k 1 := ⟨_, rfl⟩
        obtain ⟨f2, hf2⟩ : ∃ x, x = F k 2 := ⟨_, rfl⟩
        obtain ⟨f3, hf3⟩ : ∃ x, x = F k 3 := ⟨_, rfl⟩
        obtain ⟨f4, hf4⟩ : ∃ x, x = F k 4 := ⟨_, rfl⟩
        obtain ⟨f5, hf5⟩ : ∃ x, x = F k 5 := ⟨_, rfl⟩
        obtain ⟨f6, hf6⟩ : ∃ x, x = F k 6 := ⟨_, rfl⟩
        rw [← hf0, ← hf1, ← hf2, ← hf3, ← hf4, ← hf5, ← hf6] at PTS hC
        rw [← hf0] at RC
        have C0' := Lib.hid hC
        have hk0 : (0 : Int) ≤ (k : Int) := by omega
        have hk3 : (k : Int) < (n : Int) := by omega
        clear hL hz hax hay hf0 hf1 hf2 hf3 hf4 hf5 hf6 hC hg hb cs1 cs2
        have CC := C0'.out
        have k8 : Below wr.heap.size wr wr := Below.refl _ _
        go_wp2_with fail
        go_region_held3 (fun w' => w'.cell? ⟨G, 0, none⟩ = some (.int .i64 ax) ∧ w'.cell? ⟨G, 1, none⟩ = some (.int .i64 ay) ∧ w'.cell? ⟨g, o + k * 7, none⟩ = some (.int .i64 f0) ∧ w'.cell? ⟨g, o + k * 7 + 1, none⟩ = some (.int .i64 f1) ∧ w'.cell? ⟨g, o + k * 7 + 2, none⟩ = some (.int .i64 f2) ∧ w'.cell? ⟨g, o + k * 7 + 3, none⟩ = some (.int .i64 f3) ∧ w'.cell? ⟨g, o + k * 7 + 4, none⟩ = some (.int .i64 f4) ∧ w'.cell? ⟨g, o + k * 7 + 5, none⟩ = some (.int .i64 f5) ∧ w'.cell? ⟨g, o + k * 7 + 6, none⟩ = some (.int .i64 f6))
          (first | with_reducible exact CC.cells | with_reducible exact CC.drew.cells)
          (first
            | (go_at_call 26; (with_reducible refine (PTS.out wr.drew).mono ?_); rintro e v1 ⟨hb, vx, rfl, hl, hnil⟩; have k8 : Below wr.heap.size wr v1 := bel_drew hb; have CC := C0'.out.later k8))
        all_goals
          have G1 := Lib.hid (GG.out.later k8)
          have B1 := Lib.hid (bthen B.out k8)
          have c0 := CC.2.2.1
          have g0 := G1.out.2.2 0 _ rfl
          have g1 := G1.out.2.2 1 _ rfl
          have gf := G1.out.2.1
          obtain ⟨p, cp, rfl, hln, hp⟩ := hl
          obtain ⟨m, hm⟩ : ∃ m, m = L.length := ⟨_, rfl⟩
          have NX : Hid (∀ x y : Int, (if 0 < m then lastP L else ((ax, ay) : Pt)) = (x, y) → ∀ W, BxAt W G [.int .i64 x, .int .i64 y] → BxAt W G [.int .i64 (atT F (k + 1)).1, .int .i64 (atT F (k + 1)).2]) := Lib.hid (fun x y e W hW => by
            rw [CS.out.2, RA.out, ← hm, AE.out, e]
            exact hW)
          have NC : Hid (∀ u : Nat, u = (if f0 = 1 then 0 else max 1 m) → ((costT F (k + 1) : Nat) : Int) = (z : Int) + (u : Int)) := Lib.hid (fun u hu => by
            rw [CS.out.1, RC.out, ← hm, ← hu]
            omega)
          have hmc : (m = 0 ∧ ¬ (0 : Int) < (m : Int) ∧ ¬ (1 : Int) < (m : Int)) ∨ (∃ (q : Nat) (g2 o2 : Nat) (lx ly : Int), (m : Int) - 1 = (q : Int) ∧ (q : Int) < (m : Int) ∧ q < m ∧ (0 : Int) < (m : Int) ∧ p = some ⟨g2, o2, none⟩ ∧ v1.cell? ⟨g2, o2 + q * 2, none⟩ = some (.int .i64 lx) ∧ v1.cell? ⟨g2, o2 + q * 2 + 1, none⟩ = some (.int .i64 ly) ∧ Hid ((if 0 < m then lastP L else ((ax, ay) : Pt)) = (lx, ly)) ∧ ((1 : Int) < (m : Int) ∨ m = 1 ∧ ¬ (1 : Int) < (m : Int))) := by
            by_cases h0 : m = 0
            · exact Or.inl ⟨h0, by omega, by omega⟩
            · obtain ⟨g2, o2, rfl, hpt⟩ := hp (by omega)
              obtain ⟨d0, d1⟩ := hpt (m - 1) (by omega)
              dsimp only at d0 d1
              have e : L.getD (m - 1) (0, 0) = lastP L := by rw [hm]; rfl
              rw [e] at d0 d1
              refine Or.inr ⟨m - 1, g2, o2, _, _, by omega, by omega, by omega, by omega, rfl, d0, d1, Lib.hid ?_, by omega⟩
              rw [if_pos (by omega)]
          rw [← hm] at hln LL ⊢
          clear hp hm CC RC RA CS hnil
          have hfc : (f0 != 1) = false ∧ f0 = 1 ∨ (f0 != 1) = true ∧ ¬ f0 = 1 := by
            by_cases h1 : f0 = 1
            · exact Or.inl ⟨by simp [h1], h1⟩
            · exact Or.inr ⟨by simpa using h1, h1⟩
          rcases hfc with ⟨f1', f2'⟩ | ⟨f1', f2'⟩ <;> rcases hmc with ⟨m1, m2, m3⟩ | ⟨q, g2, o2, lx, ly, q1, q2, q3, q4, rfl, d0, d1, LE, m1 | ⟨m2, m1⟩⟩
          · have ZZ := Lib.hid (NC.out 0 (by rw [if_pos f2']))
            have GN := Lib.hid (NX.out ax ay (by rw [if_neg (by omega)]) v1 G1.out)
            clear NC NX f2'
            go_wp2_with fail
            refine ⟨⟨k + 1, by omega, by go_num, ?_, GN.out, B1.out⟩, by (first | (simp [intOf]; done) | (simp [intOf]; omega) | (simp only [intOf]; omega))⟩
            rw [ZZ.out]
            simp
          · have ZZ := Lib.hid (NC.out 0 (by rw [if_pos f2']))
            have GN := Lib.hid (NX.out lx ly LE.out _ (G1.out.both (.int .i64 lx) (.int .i64 ly)))
            have BN := Lib.hid (below_store2 B1.out ZG.out (.int .i64 lx) (.int .i64 ly))
            clear NC NX f2'
            go_wp2_with fail
            refine ⟨⟨k + 1, by omega, by go_num, ?_, GN.out, BN.out⟩, by (first | (simp [intOf]; done) | (simp [intOf]; omega) | (simp only [intOf]; omega))⟩
            rw [ZZ.out]
            simp
          · have ZZ := Lib.hid (NC.out 0 (by rw [if_pos f2']))
            have GN := Lib.hid (NX.out lx ly LE.out _ (G1.out.both (.int .i64 lx) (.int .i64 ly)))
            have BN := Lib.hid (below_store2 B1.out ZG.out (.int .i64 lx) (.int .i64 ly))
            clear NC NX f2' m2
            go_wp2_with fail
            refine ⟨⟨k + 1, by omega, by go_num, ?_, GN.out, BN.out⟩, by (first | (simp [intOf]; done) | (simp [intOf]; omega) | (simp only [intOf]; omega))⟩
            rw [ZZ.out]
            simp
          · have ZZ := Lib.hid (NC.out 1 (by rw [if_neg f2']; omega))
            have GN := Lib.hid (NX.out ax ay (by rw [if_neg (by omega)]) v1 G1.out)
            clear NC NX f2'
            go_wp2_with fail
            refine ⟨⟨k + 1, by omega, by go_num, ?_, GN.out, B1.out⟩, by (first | (simp [intOf]; done) | (simp [intOf]; omega) | (simp only [intOf]; omega))⟩
            rw [ZZ.out]
            simp
          · have ZZ := Lib.hid (NC.out m (by rw [if_neg f2']; omega))
            have GN := Lib.hid (NX.out lx ly LE.out _ (G1.out.both (.int .i64 lx) (.int .i64 ly)))
            have BN := Lib.hid (below_store2 B1.out ZG.out (.int .i64 lx) (.int .i64 ly))
            clear NC NX f2'
            go_wp2_with fail
            refine ⟨⟨k + 1, by omega, by go_num, ?_, GN.out, BN.out⟩, by (first | (simp [intOf]; done) | (simp [intOf]; omega) | (simp only [intOf]; omega))⟩
            rw [ZZ.out]
          · have ZZ := Lib.hid (NC.out 1 (by rw [if_neg f2']; omega))
            have GN := Lib.hid (NX.out lx ly LE.out _ (G1.out.both (.int .i64 lx) (.int .i64 ly)))
            have BN := Lib.hid (below_store2 B1.out ZG.out (.int .i64 lx) (.int .i64 ly))
            clear NC NX f2' m2
            go_wp2_with fail
            refine ⟨⟨k + 1, by omega, by go_num, ?_, GN.out, BN.out⟩, by (first | (simp [intOf]; done) | (simp [intOf]; omega) | (simp only [intOf]; omega))⟩
            rw [ZZ.out]
            simp
      · obtain rfl : k = n := by omega
        have CE1 := Lib.hid CE.out
        have B := Lib.hid hb
        clear hg hb
        go_wp2_with fail
        refine bodyPost_ret (v := .tuple #[.int .i64 (costT F k), .int .i64 0]) ?_ rfl ⟨B.out, Or.inr ⟨CE.out.symm, rfl⟩⟩
        simp [results, Try.results14, go_sem]
  · go_wp2_with fail
    refine bodyPost_ret (v := .tuple #[.int .i64 0, .int .i64 ce]) ?_ rfl ⟨B1.out, Or.inl ⟨by rw [← CE.out]; exact h0, by rw [← CE.out]⟩⟩
    simp [results, Try.results14, go_sem]
end Go.Proofs.Ythglgempbdaikaa
namespace Go.Proofs.Ythglgempbdaikaa
open Go.RowKit

def QuietPost (v : Value) (w : World) (e : Ending) (w' : World) : Prop := e = .returned v ∧ ∃ m, w' = w.drewN m
theorem below_drewN' (w : World) (m : Nat) : Below w.heap.size w (w.drewN m) := below_drewN (Below.refl _ _) m
set_option maxRecDepth 100000 in
set_option maxHeartbeats 1600000 in
theorem same28_any (v u : Value) (l : List Pt) (w : World) (h : LnV w v l) (h2 : LnV w u l) : Calls Try.prog 28 #[v, u] w (QuietPost (.bool true) w) := by
  obtain ⟨p, c, rfl, hn, hc⟩ := h
  obtain ⟨p2, c2, rfl, _, hc2⟩ := h2
  have C := Lib.hid hc
  have C2 := Lib.hid hc2
  obtain ⟨n, hnl⟩ : ∃ n, n = l.length := ⟨_, rfl⟩
  rw [← hnl] at hn C C2 ⊢
  clear hc hc2 hnl
  go_enter Try.func28, Try.ntmps28
  go_wp2_with fail
  go_loopw [5] (fun i wr => ∃ k : Nat, k ≤ n ∧ i = .int .i64 k ∧ ∃ m, wr = w.drewN m) (fun i _ => n - (intOf i).toNat)
  case atStart => exact ⟨0, by omega, rfl, 0, rfl⟩
  case round =>
    obtain ⟨k, hk, rfl, m, rfl⟩ := hrel
    by_cases hlt : k < n
    · obtain ⟨g, off, rfl, hp⟩ := C.out (by omega)
      obtain ⟨g2, off2, rfl, hp2⟩ := C2.out (by omega)
      obtain ⟨c0, c1⟩ := hp k hlt
      obtain ⟨d0, d1⟩ := hp2 k hlt
      dsimp only at c0 c1 d0 d1
      have hk0 : (0 : Int) ≤ (k : Int) := by omega
      have hk3 : (k : Int) < (n : Int) := by omega
      obtain ⟨x, hx⟩ : ∃ x, x = (l.getD k (0, 0)).1 := ⟨_, rfl⟩
      obtain ⟨y, hy⟩ : ∃ y, y = (l.getD k (0, 0)).2 := ⟨_, rfl⟩
      rw [← hx] at c0 d0
      rw [← hy] at c1 d1
      clear hp hp2 hx hy
      go_wp2_with fail
      go_quiet (fail)
      go_wp2_with fail
      refine ⟨⟨k + 1, by omega, by go_num, _, rfl⟩, by (first | (simp [intOf]; done) | (simp [intOf]; omega) | (simp only [intOf]; omega))⟩
    · go_wp2_with fail
      go_ret
      exact ⟨rfl, _, rfl⟩
set_option maxRecDepth 100000 in
set_option maxHeartbeats 1600000 in
theorem samel_any (v u : Value) (L : List Ln) (w : World) (h : Lns w v L) (h2 : Lns w u L) : Calls Try.prog 15 #[v, u] w (QuietPost (.bool true) w) := by
  obtain ⟨p, c, rfl, hn, hc⟩ := h
  obtain ⟨p2, c2, rfl, _, hc2⟩ := h2
  have C := Lib.hid hc
  have C2 := Lib.hid hc2
  obtain ⟨n, hnl⟩ : ∃ n, n = L.length := ⟨_, rfl⟩
  rw [← hnl] at hn C C2 ⊢
  clear hc hc2 hnl
  go_enter Try.func15, Try.ntmps15
  go_wp2_with fail
  go_loopw [5] (fun i wr => ∃ k : Nat, k ≤ n ∧ i = .int .i64 k ∧ ∃ m, wr = w.drewN m) (fun i _ => n - (intOf i).toNat)
  case atStart => exact ⟨0, by omega, rfl, 0, rfl⟩
  case round =>
    obtain ⟨k, hk, rfl, m, hwr⟩ := hrel
    have HW := Lib.hid hwr
    have BW : Hid (Below w.heap.size w wr) := Lib.hid (by rw [hwr]; exact below_drewN' w m)
    clear hwr
    by_cases hlt : k < n
    · obtain ⟨g, off, rfl, hp⟩ := C.out (by omega)
      obtain ⟨g2, off2, rfl, hp2⟩ := C2.out (by omega)
      obtain ⟨p1, n1, k1, a0, a1, hl1⟩ := hp k hlt
      obtain ⟨p2, n2, k2, b0, b1, hl2⟩ := hp2 k hlt
      have a0 := cell_later BW.out a0
      have a1 := cell_later BW.out a1
      have b0 := cell_later BW.out b0
      have b1 := cell_later BW.out b1
      have hl1 := hl1.later BW.out
      have hl2 := hl2.later BW.out
      have hk0 : (0 : Int) ≤ (k : Int) := by omega
      have hk3 : (k : Int) < (n : Int) := by omega
      obtain ⟨bb, hbb⟩ : ∃ x, x = (L.getD k ([], false)).2 := ⟨_, rfl⟩
      rw [← hbb] at a1 b1
      have SM : Hid (∀ j, Calls Try.prog 28 #[.slice p1 n1 k1, .slice p2 n2 k2] (wr.drewN j) (QuietPost (.bool true) (wr.drewN j))) := Lib.hid (fun j => same28_any _ _ _ _ (hl1.later (below_drewN' wr j)) (hl2.later (below_drewN' wr j)))
      have e1 : (bb != bb) = false := by simp
      clear hp hp2 hbb hl1 hl2
      go_wp2_with fail
      go_quiet ((go_at_call 28; exact Calls.quiet_of (SM.out _)))
      go_wp2_with fail
      refine ⟨⟨k + 1, by omega, by go_num, m + nq, by rw [HW.out, World.drewN_drewN]⟩, by (first | (simp [intOf]; done) | (simp [intOf]; omega) | (simp only [intOf]; omega))⟩
    · go_wp2_with fail
      go_ret
      exact ⟨rfl, _, HW.out⟩
end Go.Proofs.Ythglgempbdaikaa
namespace Go.Proofs.Ythglgempbdaikaa
open Go.RowKit

theorem trace_cases {F : Nat → Nat → Int} {n : Nat} {w w' : World} {e : Ending} (h : TracePost F n w e w') :
    Below w.heap.size w w' ∧ ∃ v, e = .returned (.tuple #[v, .int .i64 (checkE F n)]) ∧ Lns w' v (if checkE F n = 0 then traceL F n else []) := by
  obtain ⟨hb, h⟩ := h
  refine ⟨hb, ?_⟩
  rcases h with ⟨h0, rfl⟩ | ⟨h0, v, rfl, hv⟩
  · exact ⟨_, rfl, by rw [if_neg h0]; exact ⟨none, 0, rfl, by simp, fun h => by simp at h⟩⟩
  · exact ⟨v, by rw [h0], by rw [if_pos h0]; exact hv⟩
theorem count_cases {F : Nat → Nat → Int} {n : Nat} {w w' : World} {e : Ending} (h : CountPost F n w e w') :
    Below w.heap.size w w' ∧ e = .returned (.tuple #[.int .i64 ((if checkE F n = 0 then costT F n else 0 : Nat) : Int), .int .i64 (checkE F n)]) := by
  obtain ⟨hb, h⟩ := h
  refine ⟨hb, ?_⟩
  rcases h with ⟨h0, rfl⟩ | ⟨h0, rfl⟩
  · rw [if_neg h0]; rfl
  · rw [if_pos h0, h0]
set_option maxRecDepth 100000 in
set_option maxHeartbeats 3200000 in
theorem traces_any (sv : Value) (n : Nat) (F : Nat → Nat → Int) (op : Int) (w : World) (h : Sts w sv n F) : Calls Try.prog 4 #[sv, .int .i64 op] w (RetPost (.bool true) w) := by
  obtain ⟨L, hL⟩ : ∃ L, L = if checkE F n = 0 then traceL F n else [] := ⟨_, rfl⟩
  obtain ⟨z, hz⟩ : ∃ z : Nat, z = if checkE F n = 0 then costT F n else 0 := ⟨_, rfl⟩
  obtain ⟨ce, hce⟩ : ∃ ce, ce = checkE F n := ⟨_, rfl⟩
  obtain ⟨us, hus⟩ : ∃ us, us = usesI op := ⟨_, rfl⟩
  have T1 : Hid (∀ W, Sts W sv n F → Calls Try.prog 11 #[sv] W (fun e W' => Below W.heap.size W W' ∧ ∃ v, e = .returned (.tuple #[v, .int .i64 ce]) ∧ Lns W' v L)) := Lib.hid (fun W hW => (trace_any sv n F W hW).mono fun e W' h => by rw [hL, hce]; exact trace_cases h)
  have T2 : Hid (∀ W, Sts W sv n F → Calls Try.prog 12 #[sv] W (fun e W' => Below W.heap.size W W' ∧ ∃ v, e = .returned (.tuple #[v, .int .i64 ce]) ∧ Lns W' v L)) := Lib.hid (fun W hW => (rtrace_any sv n F W hW).mono fun e W' h => by rw [hL, hce]; exact trace_cases h)
  have T3 : Hid (∀ W, Sts W sv n F → Calls Try.prog 13 #[sv] W (fun e W' => Below W.heap.size W W' ∧ e = .returned (.tuple #[.int .i64 (z : Int), .int .i64 ce]))) := Lib.hid (fun W hW => (count_any sv n F W hW).mono fun e W' h => by rw [hz, hce]; exact count_cases h)
  have T4 : Hid (∀ W, Sts W sv n F → Calls Try.prog 14 #[sv] W (fun e W' => Below W.heap.size W W' ∧ e = .returned (.tuple #[.int .i64 (z : Int), .int .i64 ce]))) := Lib.hid (fun W hW => (rcount_any sv n F W hW).mono fun e W' h => by rw [hz, hce]; exact count_cases h)
  have U1 : Hid (∀ W, Calls Try.prog 16 #[.int .i64 op] W (RetPost (.int .i64 us) W)) := Lib.hid (fun W => (uses_any op W).mono fun e W' h => by rw [hus]; obtain ⟨h1, rfl⟩ := h; exact ⟨h1, Below.refl _ _⟩)
  have U2 : Hid (∀ W, Calls Try.prog 17 #[.int .i64 op] W (RetPost (.int .i64 us) W)) := Lib.hid (fun W => by rw [hus]; exact ruses_any op W)
  have H := Lib.hid h
  clear h hL hz hce hus
  go_enter Try.func4, Try.ntmps4
  go_wp2_with fail
  refine (T1.out w H.out).mono ?_
  rintro e1 w1 ⟨hb1, v1, rfl, hv1⟩
  have B1 := Lib.hid hb1
  have V1 := Lib.hid hv1
  clear hb1 hv1
  go_wp2_with fail
  refine (T2.out w1 (H.out.later B1.out)).mono ?_
  rintro e2 w2 ⟨hb2, v2, rfl, hv2⟩
  have B2 := Lib.hid (bthen B1.out hb2)
  have V1 := Lib.hid (V1.out.later hb2)
  have V2 := Lib.hid hv2
  clear hb2 hv2
  go_wp2_with fail
  refine (T3.out w2 (H.out.later B2.out)).mono ?_
  rintro e3 w3 ⟨hb3, rfl⟩
  have B3 := Lib.hid (bthen B2.out hb3)
  have V1 := Lib.hid (V1.out.later hb3)
  have V2 := Lib.hid (V2.out.later hb3)
  clear hb3
  go_wp2_with fail
  refine (T4.out w3 (H.out.later B3.out)).mono ?_
  rintro e4 w4 ⟨hb4, rfl⟩
  have B4 := Lib.hid (bthen B3.out hb4)
  have V1 := Lib.hid (V1.out.later hb4)
  have V2 := Lib.hid (V2.out.later hb4)
  clear hb4
  go_wp2_with fail
  refine (samel_any v1 v2 L w4 V1.out V2.out).mono ?_
  rintro e5 w5 ⟨rfl, m, hm⟩
  have B5 : Hid (Below w.heap.size w w5) := Lib.hid (by rw [hm]; exact bthen B4.out (below_drewN' _ _))
  clear hm
  go_wp2_with fail
  refine (U1.out w5).mono ?_
  rintro e6 w6 ⟨rfl, hb6⟩
  have B6 := Lib.hid (bthen B5.out hb6)
  clear hb6
  go_wp2_with fail
  refine (U2.out w6).mono ?_
  rintro e7 w7 ⟨rfl, hb7⟩
  have B7 := Lib.hid (bthen B6.out hb7)
  clear hb7
  go_wp2_with fail
  refine (lives12 w7).mono ?_
  rintro e8 w8 ⟨rfl, hb8⟩
  have B8 := Lib.hid (bthen B7.out hb8)
  clear hb8
  go_wp2_with fail
  go_ret
  exact ⟨rfl, B8.out⟩
end Go.Proofs.Ythglgempbdaikaa
namespace Go.Proofs.Ythglgempbdaikaa.pathTraces
open Go.ChangeShapes Go.WideShapes Go.ChangeAt Go.RowKit Go.Deep
open Go.ChangeMaps (open_string shut_string)
set_option linter.unusedVariables false
theorem own : ownKnob Try.prog.godebug = none := by kernel_rfl
theorem laidOut : laidOutB Try.prog = true := by kernel_rfl
theorem bytes59 : Try.prog.bytesOf 59 = 56 := by kernel_rfl
theorem cells59 : Try.prog.cellsOf 59 = 7 := by kernel_rfl
theorem cells42 : Try.prog.cellsOf 42 = 2 := by kernel_rfl
theorem cells57 : Try.prog.cellsOf 57 = 3 * Try.prog.cellsOf 42 := by kernel_rfl
section
variable {H : Type} {enc : TypeId × Value → H} {w : World} {base : Nat} {spare : Nat → Bool} {held : Bool} {fuel : Nat} {cs : List Value} {x : DataW H × List MemPlace}
theorem allI_pt (h : DataW.trod enc Try.prog w base spare held fuel 42 cs = some x) : AllI cs :=
  allI_struct Try.underlying42 (fun i f hf => by
    match i, hf with
    | 0, hf => cases hf; exact ⟨rfl, by kernel_rfl, Try.underlying3⟩
    | 1, hf => cases hf; exact ⟨rfl, by kernel_rfl, Try.underlying3⟩
    | i + 2, hf => simp at hf) (by kernel_rfl) h
theorem len42 (h : DataW.trod enc Try.prog w base spare held fuel 42 cs = some x) : cs.length = Try.prog.cellsOf 42 := by
  obtain ⟨xs, n, _, _, hl, _⟩ := DataW.trod_struct Try.underlying42 h
  exact hl
theorem allI_a3p (h : DataW.trod enc Try.prog w base spare held fuel 57 cs = some x) : AllI cs := by
  refine allI_array (n := 3) (e := 42) Try.underlying57 ?_ cells57 (by rw [cells42]; omega) h
  intro fuel cs x h
  exact ⟨allI_pt h, len42 h⟩
set_option maxRecDepth 100000 in
theorem allI_step (h : DataW.trod enc Try.prog w base spare held fuel 59 cs = some x) : AllI cs := by
  obtain ⟨xs, n, _, hx, hl, hxs, hall⟩ := DataW.trod_struct Try.underlying59 h
  rw [cells59] at hl
  obtain ⟨c0, c1, c2, c3, c4, c5, c6, rfl⟩ : ∃ c0 c1 c2 c3 c4 c5 c6, cs = [c0, c1, c2, c3, c4, c5, c6] := by
    match cs, hl with
    | [c0, c1, c2, c3, c4, c5, c6], _ => exact ⟨c0, c1, c2, c3, c4, c5, c6, rfl⟩
  have e0 := hall 0 _ rfl
  have e1 := hall 1 _ rfl
  have hs : xs.length = 2 := hxs
  obtain ⟨x0, x1, rfl⟩ : ∃ x0 x1, xs = [x0, x1] := by
    match xs, hs with
    | [x0, x1], _ => exact ⟨x0, x1, rfl⟩
  have e0 : DataW.trod enc Try.prog w base spare held n 3 [c0] = some x0 := e0
  have e1 : DataW.trod enc Try.prog w base spare held n 57 [c1, c2, c3, c4, c5, c6] = some x1 := e1
  have a0 := allI_int Try.underlying3 e0
  have a1 := allI_a3p e1
  intro i hi
  match i, hi with
  | 0, hi => exact a0 0 (by simp)
  | i + 1, hi => exact a1 i (by simp at hi ⊢; omega)
end
theorem sts_of {W : World} {a : Option Addr} {n c : Nat} {F : Nat → Nat → Int} (l : n ≤ 281474976710656) (R : ∀ j, j < n → ∃ b off, a = some ⟨b, off, none⟩ ∧ b < W.heap.size ∧ RowI W b off 7 j (F j)) : Sts W (.slice a n c) n F := by
  refine ⟨a, c, rfl, l, fun h0 => ?_⟩
  obtain ⟨b, off, rfl, hb, _⟩ := R 0 h0
  refine ⟨b, off, rfl, fun j hj t ht => ?_⟩
  obtain ⟨b', off', e, _, hr⟩ := R j hj
  cases e
  exact hr t ht
set_option maxRecDepth 100000 in
theorem lifted (os : Os) (started : os.Started) (H : Type) (enc : TypeId × Value → H) :
    ReturnsInHanded {} Try.checked os 4 .any (Rows.pathTracesSpec.pre6 enc Try.prog Try.f4 Rows.pathTracesRow.domain false) (Rows.pathTracesSpec.post enc Try.prog Try.f4 false true false false) := by
  refine returnsInHanded_of_change_sized (C := Try.checked) own started (by kernel_rfl) Try.func4
    (ChangeSpec.witness6 (enc := enc) (C := Try.checked) false ⟨#[], #[.slice none 0 0, .int .i64 0], []⟩ 8 (by kernel_rfl) (by kernel_rfl) (by kernel_rfl) (by kernel_rfl)) ?_
  intro W base args ds gs before hval0 hW hcnd hsz0 _
  have hsz : (DataW.weightsEach Try.prog (Try.f4.params.toList ++ Rows.pathTracesSpec.plain.varTypes Try.prog) (ds ++ gs)).all (· ≤ reachBytes) = true := hsz0
  clear hsz0
  have hval : ∀ (j : Nat) t v, Try.f4.params[j]? = some t → args[j]? = some v → Value.okWide Try.prog W .any base t v := hval0
  have hW' := hW
  obtain ⟨p, q, hA0, hV, rfl, hfz, hnd⟩ := hW
  have hA : DataW.TrodAll enc Try.prog W 0 (fun _ => true) true Try.f4.params.toList args.toList ds p := hA0
  rw [Try.params4] at hA hval hsz
  obtain ⟨v0, vs0, d0, ds0, p0, q0, hargs, rfl, rfl, h0, r0⟩ := trodAll_cons hA
  obtain ⟨v1, vs1, d1, ds1, p1, q1, rfl, rfl, rfl, h1, r1⟩ := trodAll_cons r0
  obtain ⟨rfl, rfl, rfl⟩ := trodAll_nil r1
  obtain rfl : args = #[v0, v1] := by cases args; simp_all
  obtain ⟨rfl, rfl⟩ := trodVars_none hV
  have k0 := h0
  have lt0 : ∀ x ∈ p0, x.block < W.heap.size := by obtain ⟨m, hm⟩ := k0; exact DataW.trod_lt m _ _ _ hm
  obtain ⟨s0, n0, c0, rfl⟩ := okWide_slice Try.underlying28 (hval 0 28 v0 rfl rfl)
  obtain ⟨fu0, hf0⟩ := h0
  obtain ⟨l0, F0, R0⟩ := slice_rows (s := 7) Try.underlying28 cells59 (by omega) allI_step (by simpa [Value.cells] using hf0)
  have k1 := h1
  have lt1 : ∀ x ∈ p1, x.block < W.heap.size := by obtain ⟨m, hm⟩ := k1; exact DataW.trod_lt m _ _ _ hm
  obtain ⟨a1, rfl, rfl, rfl, w1⟩ := open_int Try.underlying3 (hval 1 3 v1 rfl rfl) h1
  have bd : n0 * 56 ≤ 140737488351232 := by
    rcases open_slice (cs := [.slice s0 n0 c0]) Try.underlying28 (by simpa [Value.cells] using hf0) with ⟨e, _⟩ | ⟨aa, ll, cc, m, nn, D, Pl, e, _, _, _, _, hx, _⟩
    · simp at e
      omega
    · simp at e
      obtain ⟨_, rfl, _⟩ := e
      obtain ⟨rfl, _⟩ := Prod.mk.inj hx
      have hz := sized_slice hsz (j := 0) (t := 28) (e := 59) rfl rfl Try.underlying28
      rw [bytes59] at hz
      simp only [List.length_map, List.length_range, reachBytes] at hz
      omega
  clear hA0 hval0
  refine (traces_any (.slice s0 n0 c0) n0 F0 a1 W (sts_of (by omega) R0)).mono fun e W' ⟨he, bel⟩ => ?_
  subst he
  exact ⟨_, rfl, _, _, _, [], _, [], hW', trodAll_mk1 (shut_bool Try.underlying4 _), (trodAll_cons_mk (Below.trod laidOut (by kernel_rfl) (of_decide_eq_true (by kernel_rfl)) k0 bel lt0) (trodAll_cons_mk (Below.trod laidOut (by kernel_rfl) (of_decide_eq_true (by kernel_rfl)) k1 bel lt1) trodAll_mk0)), rfl, bel.frame _, fun h => by cases h⟩
theorem over : Rows.pathTracesRow.holds Try.pinned (OpenSpec.ofChange Rows.pathTracesSpec) :=
  OpenClaim.holds_of_wide 4 Try.f4 rfl rfl rfl rfl rfl rfl rfl ⟨rfl, rfl, rfl, rfl, rfl⟩ rfl rfl rfl rfl rfl (by kernel_rfl) Try.func4 (by kernel_rfl)
    (of_decide_eq_true (by kernel_rfl)) (by unfold Func.isWrapper; first | (rw [if_pos (by decide +kernel)]; kernel_rfl) | (rw [if_neg (by decide +kernel)]; exact ⟨rfl, rfl⟩))
    (fun os started H enc _ => lifted os started H enc)
theorem proved : Rows.PathTracesSaid := over
#print axioms proved
end Go.Proofs.Ythglgempbdaikaa.pathTraces
