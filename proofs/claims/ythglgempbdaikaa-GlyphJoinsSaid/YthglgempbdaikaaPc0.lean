/- Plain laws: what a path costs; the ways around lines are even. -/
import Derived.Test.YthglgempbdaikaaPb0
import Derived.Test.YthglgempbdaikaaSta
namespace Go.Proofs.Ythglgempbdaikaa
open Go.RowKit

/-- what the steps cost, and where one is -/
def costK (s : Nat → Int) (p : Pt) : Nat := if s 0 = 2 then 1 else if s 0 = 5 then 1 else if s 0 = 3 then crvN 3 p s else if s 0 = 4 then crvN 4 p s else 0
def atK (s : Nat → Int) (p : Pt) : Pt := if s 0 = 1 then (s 1, s 2) else if s 0 = 2 then (s 1, s 2) else if s 0 = 3 then (s 3, s 4) else if s 0 = 4 then (s 5, s 6) else p
def atT (F : Nat → Nat → Int) : Nat → Pt
  | 0 => (0, 0)
  | i + 1 => atK (F i) (atT F i)
def costT (F : Nat → Nat → Int) : Nat → Nat
  | 0 => 0
  | i + 1 => costT F i + costK (F i) (atT F i)
theorem costK_le (s : Nat → Int) (p : Pt) : costK s p ≤ 32 := by
  have h3 := crvN_le 3 p s
  have h4 := crvN_le 4 p s
  unfold costK
  repeat' split
  all_goals omega
theorem costT_le (F : Nat → Nat → Int) (i : Nat) : costT F i ≤ 32 * i := by
  induction i with
  | zero => exact Nat.le_refl _
  | succ i ih =>
    have := costK_le (F i) (atT F i)
    unfold costT
    omega
def fitsP (p : Pt) : Bool := fits p.1 p.2
/-- a step that may be: its points fit -/
theorem right_fits {s : Nat → Int} {b : Int} (h : rightE s b = 0) : 0 ≤ usesI (s 0) ∧ fitsTo (sX s) (sY s) (usesN (s 0)) = true := by
  unfold rightE at h
  split at h
  · cases h
  · rename_i h1
    split at h
    · cases h
    · split at h
      · rename_i h3
        exact ⟨by omega, h3⟩
      · cases h
theorem uses_of (op : Int) : op = 1 ∧ usesN op = 1 ∨ op = 2 ∧ usesN op = 1 ∨ op = 3 ∧ usesN op = 2 ∨ op = 4 ∧ usesN op = 3 ∨ op = 5 ∧ usesN op = 0 ∨ usesI op < 0 := by
  unfold usesN usesI
  by_cases h1 : op = 1
  · subst h1; simp
  by_cases h2 : op = 2
  · subst h2; simp
  by_cases h3 : op = 3
  · subst h3; simp
  by_cases h4 : op = 4
  · subst h4; simp
  by_cases h5 : op = 5
  · subst h5; simp
  simp [h1, h2, h3, h4, h5]
theorem adds_pos (t : TS) (X Y : Nat → Int) (k : Nat) : (t.adds X Y (k + 1)).pos = (X k, Y k) := rfl
theorem crv_fits {p : Pt} {s : Nat → Int} {m : Nat} (hm : m = 3 ∨ m = 4) (hp : fitsP p = true) (hs : fitsTo (sX s) (sY s) (m - 1) = true) : fitsTo (quadX (crv p s)) (quadY (crv p s)) m = true := by
  unfold fitsP at hp
  rcases hm with rfl | rfl
  · have h0 := fitsTo_at (k := 0) (by omega) hs
    have h1 := fitsTo_at (k := 1) (by omega) hs
    show (((true && fits p.1 p.2) && fits (s 1) (s 2)) && fits (s 3) (s 4)) = true
    rw [hp]
    have e0 : fits (s 1) (s 2) = true := h0
    have e1 : fits (s 3) (s 4) = true := h1
    rw [e0, e1]; rfl
  · have h0 := fitsTo_at (k := 0) (by omega) hs
    have h1 := fitsTo_at (k := 1) (by omega) hs
    have h2 := fitsTo_at (k := 2) (by omega) hs
    show ((((true && fits p.1 p.2) && fits (s 1) (s 2)) && fits (s 3) (s 4)) && fits (s 5) (s 6)) = true
    rw [hp]
    have e0 : fits (s 1) (s 2) = true := h0
    have e1 : fits (s 3) (s 4) = true := h1
    have e2 : fits (s 5) (s 6) = true := h2
    rw [e0, e1, e2]; rfl
/-- where a curve ends -/
theorem curve_pos {t : TS} {s : Nat → Int} {m : Nat} (hm : m = 3 ∨ m = 4) (hp : fitsP t.pos = true) (hs : fitsTo (sX s) (sY s) (m - 1) = true) : (t.curve m s).pos = (s (2 * m - 3), s (2 * m - 2)) := by
  have hf := crv_fits hm hp hs
  obtain ⟨h1, h2⟩ := piecesN_of hf
  have hN : ∃ k, crvN m t.pos s = k + 1 := ⟨crvN m t.pos s - 1, by unfold crvN; omega⟩
  obtain ⟨k, hk⟩ := hN
  have hk' : piecesN (quadX (crv t.pos s)) (quadY (crv t.pos s)) m = k + 1 := hk
  unfold TS.curve
  rw [hk, adds_pos]
  unfold crvX crvY
  rw [hk, part_end _ _ _ hm (by omega) (by omega), part_end _ _ _ hm (by omega) (by omega)]
  rcases hm with rfl | rfl <;> rfl
theorem step_pos {t : TS} {s : Nat → Int} {b : Int} (hp : fitsP t.pos = true) (h : rightE s b = 0) : (t.step s).pos = atK s t.pos ∧ fitsP (atK s t.pos) = true := by
  obtain ⟨h0, hf⟩ := right_fits h
  rcases uses_of (s 0) with ⟨e, hu⟩ | ⟨e, hu⟩ | ⟨e, hu⟩ | ⟨e, hu⟩ | ⟨e, hu⟩ | hneg
  · rw [hu] at hf
    have f0 : fits (s 1) (s 2) = true := fitsTo_at (k := 0) (by omega) hf
    unfold TS.step atK
    simp only [e]
    exact ⟨rfl, f0⟩
  · rw [hu] at hf
    have f0 : fits (s 1) (s 2) = true := fitsTo_at (k := 0) (by omega) hf
    unfold TS.step atK
    simp only [e]
    exact ⟨rfl, f0⟩
  · rw [hu] at hf
    have f0 : fits (s 3) (s 4) = true := fitsTo_at (k := 1) (by omega) hf
    have hc := curve_pos (t := t) (s := s) (m := 3) (Or.inl rfl) hp hf
    unfold TS.step atK
    simp only [e]
    exact ⟨hc, f0⟩
  · rw [hu] at hf
    have f0 : fits (s 5) (s 6) = true := fitsTo_at (k := 2) (by omega) hf
    have hc := curve_pos (t := t) (s := s) (m := 4) (Or.inr rfl) hp hf
    unfold TS.step atK
    simp only [e]
    exact ⟨hc, f0⟩
  · unfold TS.step atK
    simp only [e]
    exact ⟨rfl, hp⟩
  · omega
theorem trace_pos {F : Nat → Nat → Int} {n : Nat} (h : chk F n = 0) : ∀ i, i ≤ n → (traceT F i).pos = atT F i ∧ fitsP (atT F i) = true := by
  intro i hi
  induction i with
  | zero => exact ⟨rfl, (by decide : fitsP (0, 0) = true)⟩
  | succ i ih =>
    obtain ⟨h1, h2⟩ := ih (by omega)
    have hr := chk_at h (show i < n by omega)
    have hs := step_pos (t := traceT F i) (s := F i) (by rw [h1]; exact h2) hr
    unfold traceT atT
    rw [h1] at hs
    exact hs
/-! lengths -/
def sumD : List Ln → Nat
  | [] => 0
  | x :: r => x.1.length + sumD r
theorem sumD_app (a b : List Ln) : sumD (a ++ b) = sumD a + sumD b := by
  induction a with
  | nil => simp [sumD]
  | cons x r ih => simp only [List.cons_append, sumD, ih]; omega
/-- the balance of lengths -/
def Few (t : TS) (n : Nat) : Prop := sumD t.done + t.now.length ≤ n + t.done.length + (if t.now = [] then 0 else 1)
theorem Few.fin {t : TS} {n : Nat} {c : Bool} (h : Few t n) : sumD (t.fin c).done ≤ n + (t.fin c).done.length := by
  have hf : (finL c t.now).length ≤ t.now.length := by
    unfold finL
    split
    · rw [List.length_take]; omega
    · exact Nat.le_refl _
  unfold Few at h
  unfold TS.fin
  dsimp only
  split
  · rename_i h1
    rw [sumD_app, List.length_append]
    simp only [sumD, List.length_cons, List.length_nil]
    split at h <;> omega
  · split at h
    · omega
    · rename_i hne
      have : 0 < t.now.length := List.length_pos_iff.2 hne
      omega
theorem Few.fin' {t : TS} {n : Nat} {c : Bool} (h : Few t n) : Few (t.fin c) n := by
  have := h.fin (c := c)
  unfold Few
  have e : (t.fin c).now = [] := rfl
  rw [e]
  simpa using this
theorem Few.add {t : TS} {n : Nat} {p : Pt} (h : Few t n) : Few (t.add p) (n + 1) := by
  have h1 := add_len t p
  have h2 : (t.add p).now ≠ [] := by
    show (if _ then _ else _ : List Pt) ≠ []
    split
    · simp
    · rename_i hne
      exact fun h => hne (Or.inl h)
  unfold Few at *
  rw [h1.2, if_neg h2]
  split at h <;> omega
theorem Few.adds {t : TS} {n : Nat} {X Y : Nat → Int} (h : Few t n) (k : Nat) : Few (t.adds X Y k) (n + k) := by
  induction k with
  | zero => exact h
  | succ k ih => exact ih.add
theorem Few.mono {t : TS} {n m : Nat} (h : Few t n) (hm : n ≤ m) : Few t m := by unfold Few at *; omega
theorem Few.move {t : TS} {n : Nat} {p : Pt} (h : sumD t.done ≤ n + t.done.length) (hn : t.now = []) : Few (t.add p) n := by
  have h1 := add_len t p
  have h2 : (t.add p).now ≠ [] := by
    show (if _ then _ else _ : List Pt) ≠ []
    split
    · simp
    · rename_i hne
      exact fun h => hne (Or.inl h)
  unfold Few
  rw [h1.2, if_neg h2]
  rw [hn] at h1
  simp at h1
  omega
theorem few_step {t : TS} {s : Nat → Int} {n : Nat} (h : Few t n) : Few (t.step s) (n + costK s t.pos) := by
  unfold TS.step costK TS.curve
  by_cases h1 : s 0 = 1
  · simp only [h1]
    exact (Few.move (h.fin (c := false)) rfl).mono (by omega)
  by_cases h2 : s 0 = 2
  · simp only [h2]
    exact h.add
  by_cases h3 : s 0 = 3
  · simp only [h3]
    exact h.adds _
  by_cases h4 : s 0 = 4
  · simp only [h4]
    exact h.adds _
  by_cases h5 : s 0 = 5
  · simp only [h5]
    exact h.fin'.mono (by omega)
  rw [if_neg h1, if_neg h2, if_neg h3, if_neg h4, if_neg h5]
  exact h.mono (by omega)
theorem few_trace {F : Nat → Nat → Int} {n : Nat} (h : chk F n = 0) : ∀ i, i ≤ n → Few (traceT F i) (costT F i) := by
  intro i hi
  induction i with
  | zero => exact Nat.le_refl _
  | succ i ih =>
    have h1 := ih (by omega)
    have h2 := (trace_pos h i (by omega)).1
    unfold traceT costT
    rw [← h2]
    exact few_step h1
theorem sumLen_sumD (L : List Ln) : sumLen L L.length = sumD L := by
  have key : ∀ (n : Nat), n ≤ L.length → sumLen L n = sumD (L.take n) := by
    intro n hn
    induction n with
    | zero => rfl
    | succ n ih =>
      have h1 := ih (by omega)
      have hlt : n < L.length := by omega
      show sumLen L n + (L.getD n ([], false)).1.length = _
      rw [h1, List.take_add_one, sumD_app, List.getElem?_eq_getElem hlt, List.getD_eq_getElem?_getD, List.getElem?_eq_getElem hlt]
      simp [sumD]
  have := key L.length (Nat.le_refl _)
  rwa [List.take_length] at this
/-- no more ways than it costs, and one a line -/
theorem few_ways {F : Nat → Nat → Int} {n : Nat} (h : chk F n = 0) : (segsTo (traceL F n) (traceL F n).length).length ≤ costT F n + (traceL F n).length := by
  have h1 := segsTo_len (traceL F n) (traceL F n).length
  rw [sumLen_sumD] at h1
  have h2 := (few_trace h n (Nat.le_refl _)).fin (c := false)
  exact Nat.le_trans h1 h2
/-! balance -/
def dif (p : Pt) (s : Pt × Pt) : Int := (if s.1 = p then 1 else 0) - (if s.2 = p then 1 else 0)
def bal (p : Pt) : List (Pt × Pt) → Int
  | [] => 0
  | x :: r => dif p x + bal p r
theorem bal_app (p : Pt) (a b : List (Pt × Pt)) : bal p (a ++ b) = bal p a + bal p b := by
  induction a with
  | nil => simp [bal]
  | cons x r ih => simp only [List.cons_append, bal, ih]; omega
def one (p q : Pt) : Int := if q = p then 1 else 0
theorem bal_segK (p : Pt) (l : List Pt) (k : Nat) : bal p (segK l k) = one p (l.getD k (0, 0)) - one p (l.getD ((k + 1) % l.length) (0, 0)) := by
  unfold segK
  split
  · rename_i h
    rw [h]
    simp [bal]
  · simp [bal, dif, one]
theorem bal_segTo (p : Pt) (l : List Pt) (k : Nat) (hk : k < l.length) : bal p (segTo l k) = one p (l.getD 0 (0, 0)) - one p (l.getD k (0, 0)) := by
  induction k with
  | zero => simp [segTo, bal]
  | succ k ih =>
    unfold segTo
    rw [bal_app, ih (by omega), bal_segK, Nat.mod_eq_of_lt hk]
    omega
theorem bal_line (p : Pt) (l : List Pt) : bal p (segTo l l.length) = 0 := by
  rcases Nat.eq_zero_or_pos l.length with h | h
  · rw [h]; rfl
  · obtain ⟨q, hq⟩ : ∃ q, l.length = q + 1 := ⟨l.length - 1, by omega⟩
    have e : segTo l l.length = segTo l q ++ segK l q := by rw [hq]; rfl
    rw [e, bal_app, bal_segTo p l q (by omega), bal_segK]
    have e2 : (q + 1) % l.length = 0 := by rw [hq]; exact Nat.mod_self _
    rw [e2]
    omega
theorem bal_segs (p : Pt) (L : List Ln) (i : Nat) : bal p (segsTo L i) = 0 := by
  induction i with
  | zero => rfl
  | succ i ih =>
    unfold segsTo
    rw [bal_app, ih, bal_line]
    rfl
theorem segs_ne (L : List Ln) (i : Nat) : ∀ s ∈ segsTo L i, s.1 ≠ s.2 := by
  have h1 : ∀ (l : List Pt) (k : Nat), ∀ s ∈ segTo l k, s.1 ≠ s.2 := by
    intro l k
    induction k with
    | zero => intro s hs; cases hs
    | succ k ih =>
      intro s hs
      unfold segTo at hs
      rcases List.mem_append.1 hs with h | h
      · exact ih s h
      · unfold segK at h
        split at h
        · cases h
        · rename_i hne
          obtain rfl := List.mem_singleton.1 h
          exact fun e => hne e.symm
  induction i with
  | zero => intro s hs; cases hs
  | succ i ih =>
    intro s hs
    unfold segsTo at hs
    rcases List.mem_append.1 hs with h | h
    · exact ih s h
    · exact h1 _ _ s h
theorem bal_take (p : Pt) (S : List (Pt × Pt)) (i : Nat) (h : i < S.length) : bal p (S.take (i + 1)) = bal p (S.take i) + dif p (S.getD i ((0, 0), (0, 0))) := by
  rw [List.take_add_one, bal_app, List.getElem?_eq_getElem h, List.getD_eq_getElem?_getD, List.getElem?_eq_getElem h]
  simp [bal]
theorem bal_le (p : Pt) (S : List (Pt × Pt)) : -(S.length : Int) ≤ bal p S ∧ bal p S ≤ S.length := by
  induction S with
  | nil => simp [bal]
  | cons x r ih =>
    have hd : -1 ≤ dif p x ∧ dif p x ≤ 1 := by unfold dif; repeat' split
                                               all_goals omega
    simp only [bal, List.length_cons]
    omega
end Go.Proofs.Ythglgempbdaikaa
