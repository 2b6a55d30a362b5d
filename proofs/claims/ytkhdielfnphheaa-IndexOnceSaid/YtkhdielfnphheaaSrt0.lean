/- Plain laws of a stable sort in place: entries of a name and a place. -/
namespace Go.Proofs.Ytkhdielfnphheaa

abbrev Ent := Int × Int
/-- by the name, then by the place -/
def elt (p q : Ent) : Prop := p.1 < q.1 ∨ p.1 = q.1 ∧ p.2 < q.2
theorem elt_trans {p q r : Ent} (h : elt p q) (k : elt q r) : elt p r := by unfold elt at *; omega
theorem elt_irr (p : Ent) : ¬ elt p p := by unfold elt; omega
def Sorted (E : Nat → Ent) (a b : Nat) : Prop := ∀ i j, a ≤ i → i < j → j < b → elt (E i) (E j)
def Mem (E : Nat → Ent) (a b : Nat) (e : Ent) : Prop := ∃ k, a ≤ k ∧ k < b ∧ E k = e
def Same (E E' : Nat → Ent) (a b : Nat) : Prop := ∀ e, Mem E a b e ↔ Mem E' a b e
def Out (E E' : Nat → Ent) (a b : Nat) : Prop := ∀ k, k < a ∨ b ≤ k → E' k = E k
theorem Same.refl (E : Nat → Ent) (a b : Nat) : Same E E a b := fun _ => Iff.rfl
theorem Same.trans {E E' E'' : Nat → Ent} {a b : Nat} (h : Same E E' a b) (k : Same E' E'' a b) : Same E E'' a b := fun e => (h e).trans (k e)
theorem Out.refl (E : Nat → Ent) (a b : Nat) : Out E E a b := fun _ _ => rfl
theorem Out.trans {E E' E'' : Nat → Ent} {a b : Nat} (h : Out E E' a b) (k : Out E' E'' a b) : Out E E'' a b := fun j hj => (k j hj).trans (h j hj)
theorem Out.wide {E E' : Nat → Ent} {a b a' b' : Nat} (h : Out E E' a b) (ha : a' ≤ a) (hb : b ≤ b') : Out E E' a' b' := fun k hk => h k (by omega)
theorem Same.mem {E E' : Nat → Ent} {a b : Nat} (h : Same E E' a b) {k : Nat} (h1 : a ≤ k) (h2 : k < b) : ∃ j, a ≤ j ∧ j < b ∧ E j = E' k := (h (E' k)).2 ⟨k, h1, h2, rfl⟩
/-- a change inside a part is one of the whole -/
theorem Same.wide {E E' : Nat → Ent} {a b a' b' : Nat} (h : Same E E' a b) (o : Out E E' a b) (ha : a' ≤ a) (hb : b ≤ b') : Same E E' a' b' := by
  intro e
  constructor
  · rintro ⟨k, h1, h2, h3⟩
    by_cases hk : a ≤ k ∧ k < b
    · obtain ⟨j, j1, j2, j3⟩ := (h e).1 ⟨k, hk.1, hk.2, h3⟩
      exact ⟨j, by omega, by omega, j3⟩
    · exact ⟨k, h1, h2, by rw [o k (by omega)]; exact h3⟩
  · rintro ⟨k, h1, h2, h3⟩
    by_cases hk : a ≤ k ∧ k < b
    · obtain ⟨j, j1, j2, j3⟩ := (h e).2 ⟨k, hk.1, hk.2, h3⟩
      exact ⟨j, by omega, by omega, j3⟩
    · exact ⟨k, h1, h2, by rw [← o k (by omega)]; exact h3⟩
def swapF (E : Nat → Ent) (i j : Nat) : Nat → Ent := fun k => if k = i then E j else if k = j then E i else E k
theorem swap_out {E : Nat → Ent} {i j a b : Nat} (hi : a ≤ i ∧ i < b) (hj : a ≤ j ∧ j < b) : Out E (swapF E i j) a b := by
  intro k hk
  unfold swapF
  rw [if_neg (by omega), if_neg (by omega)]
theorem swap_same {E : Nat → Ent} {i j a b : Nat} (hi : a ≤ i ∧ i < b) (hj : a ≤ j ∧ j < b) : Same E (swapF E i j) a b := by
  intro e
  constructor
  · rintro ⟨k, h1, h2, h3⟩
    by_cases e1 : k = i
    · exact ⟨j, hj.1, hj.2, by unfold swapF; by_cases e2 : j = i; · rw [if_pos e2, e2, ← e1]; exact h3
                               · rw [if_neg e2, if_pos rfl, ← e1]; exact h3⟩
    · by_cases e2 : k = j
      · exact ⟨i, hi.1, hi.2, by unfold swapF; rw [if_pos rfl, ← e2]; exact h3⟩
      · exact ⟨k, h1, h2, by unfold swapF; rw [if_neg e1, if_neg e2]; exact h3⟩
  · rintro ⟨k, h1, h2, h3⟩
    unfold swapF at h3
    split at h3
    · exact ⟨j, hj.1, hj.2, h3⟩
    · split at h3
      · exact ⟨i, hi.1, hi.2, h3⟩
      · exact ⟨k, h1, h2, h3⟩
/-! insertion -/
/-- how an element goes left: at j now, came from i; the others are sorted -/
structure InsI (E0 E : Nat → Ent) (a i j : Nat) : Prop where
  ja : a ≤ j
  ji : j ≤ i
  out : Out E0 E a (i + 1)
  same : Same E0 E a (i + 1)
  left : ∀ p q, a ≤ p → p < q → q ≤ i → p ≠ j → q ≠ j → elt (E p) (E q)
  right : ∀ p, j < p → p ≤ i → elt (E j) (E p)
  last : ∀ p, a ≤ p → p ≤ i → p ≠ j → (E p).2 < (E j).2
theorem InsI.start {E : Nat → Ent} {a i : Nat} (ha : a ≤ i) (hs : Sorted E a i) (hl : ∀ p, a ≤ p → p < i → (E p).2 < (E i).2) : InsI E E a i i :=
  ⟨ha, Nat.le_refl _, Out.refl _ _ _, Same.refl _ _ _, fun p q h1 h2 h3 h4 h5 => hs p q h1 h2 (by omega), fun p h1 h2 => by omega, fun p h1 h2 h3 => hl p h1 (by omega)⟩
theorem InsI.step {E0 E : Nat → Ent} {a i j : Nat} (h : InsI E0 E a i j) (hj : a < j) (hc : (E j).1 < (E (j - 1)).1) : InsI E0 (swapF E j (j - 1)) a i (j - 1) := by
  have hi := h.ji
  have ha := h.ja
  have e1 : swapF E j (j - 1) (j - 1) = E j := by unfold swapF; rw [if_neg (by omega), if_pos rfl]
  have e2 : swapF E j (j - 1) j = E (j - 1) := by unfold swapF; rw [if_pos rfl]
  have e3 : ∀ p, p ≠ j → p ≠ j - 1 → swapF E j (j - 1) p = E p := fun p h1 h2 => by unfold swapF; rw [if_neg h1, if_neg h2]
  refine ⟨by omega, by omega, h.out.trans (swap_out (by omega) (by omega)), h.same.trans (swap_same (by omega) (by omega)), fun p q h1 h2 h3 h4 h5 => ?_, fun p h1 h2 => ?_, fun p h1 h2 h3 => ?_⟩
  · by_cases p1 : p = j
    · subst p1
      rw [e2, e3 q (by omega) h5]
      exact h.left (p - 1) q (by omega) (by omega) h3 (by omega) (by omega)
    · rw [e3 p p1 h4]
      by_cases q1 : q = j
      · subst q1
        rw [e2]
        exact h.left p (q - 1) h1 (by omega) (by omega) p1 (by omega)
      · rw [e3 q q1 h5]
        exact h.left p q h1 h2 h3 p1 q1
  · rw [e1]
    by_cases p1 : p = j
    · subst p1
      rw [e2]
      exact Or.inl hc
    · rw [e3 p p1 (by omega)]
      exact h.right p (by omega) h2
  · rw [e1]
    by_cases p1 : p = j
    · subst p1
      rw [e2]
      exact h.last (p - 1) (by omega) (by omega) (by omega)
    · rw [e3 p p1 h3]
      exact h.last p h1 h2 p1
theorem InsI.stop {E0 E : Nat → Ent} {a i j : Nat} (h : InsI E0 E a i j) (hc : a < j → ¬ (E j).1 < (E (j - 1)).1) : Sorted E a (i + 1) := by
  intro p q h1 h2 h3
  have ha := h.ja
  have hi := h.ji
  by_cases q1 : q = j
  · subst q1
    have hl : elt (E (q - 1)) (E q) := by
      have k1 := hc (by omega)
      have k2 := h.last (q - 1) (by omega) (by omega) (by omega)
      unfold elt
      omega
    by_cases p1 : p = q - 1
    · rw [p1]; exact hl
    · exact elt_trans (h.left p (q - 1) h1 (by omega) (by omega) (by omega) (by omega)) hl
  · by_cases p1 : p = j
    · subst p1
      exact h.right q h2 (by omega)
    · exact h.left p q h1 h2 (by omega) p1 q1
end Go.Proofs.Ytkhdielfnphheaa
