/- Plain laws of a stable sort in place: one element against many; tables of names. -/
import Derived.Test.YtkhdielfnphheaaSrt1
namespace Go.Proofs.Ytkhdielfnphheaa

theorem mov_right {E : Nat → Ent} {a k : Nat} (h : a ≤ k) : swapF (rotF E a (a + 1) (k + 1)) k (k + 1) = rotF E a (a + 1) (k + 2) := by
  funext t
  unfold swapF rotF
  repeat' split
  all_goals first
    | (exfalso; omega)
    | exact congrArg E (by omega)
theorem mov_left {E : Nat → Ent} {m k : Nat} (h : k < m) : swapF (rotF E (k + 1) m (m + 1)) (k + 1) k = rotF E k m (m + 1) := by
  funext t
  unfold swapF rotF
  repeat' split
  all_goals first
    | (exfalso; omega)
    | exact congrArg E (by omega)
theorem rot_none (E : Nat → Ent) (a m : Nat) : rotF E a m m = E := by
  funext t
  unfold rotF
  repeat' split
  all_goals first
    | (exfalso; omega)
    | exact congrArg E (by omega)
theorem rot_none2 (E : Nat → Ent) (m h : Nat) : rotF E m m h = E := by
  funext t
  unfold rotF
  repeat' split
  all_goals first
    | (exfalso; omega)
    | exact congrArg E (by omega)
theorem single_left {E : Nat → Ent} {a b i : Nat} (h : Mrg E a (a + 1) b) (h1 : a + 1 ≤ i) (h2 : i ≤ b) (hi : a + 1 < i → elt (E (i - 1)) (E a)) (lo : i < b → elt (E a) (E i)) : Sorted (rotF E a (a + 1) i) a b := by
  intro p q p1 pq q1
  have e1 : ∀ k, a ≤ k → k + 1 < i → rotF E a (a + 1) i k = E (k + 1) := fun k k1 k2 => by
    unfold rotF
    rw [if_pos (by omega)]
    exact congrArg E (by omega)
  have e2 : rotF E a (a + 1) i (i - 1) = E a := by
    unfold rotF
    rw [if_neg (by omega), if_pos (by omega)]
    exact congrArg E (by omega)
  have e3 : ∀ k, i ≤ k → rotF E a (a + 1) i k = E k := fun k k1 => by
    unfold rotF
    rw [if_neg (by omega), if_neg (by omega)]
  by_cases c1 : p + 1 < i
  · rw [e1 p p1 c1]
    by_cases c2 : q + 1 < i
    · rw [e1 q (by omega) c2]
      exact h.right _ _ (by omega) (by omega) (by omega)
    · by_cases c3 : q = i - 1
      · rw [c3, e2]
        by_cases c4 : p + 1 = i - 1
        · rw [c4]; exact hi (by omega)
        · exact elt_trans (h.right (p + 1) (i - 1) (by omega) (by omega) (by omega)) (hi (by omega))
      · rw [e3 q (by omega)]
        exact h.right _ _ (by omega) (by omega) (by omega)
  · by_cases c3 : p = i - 1
    · rw [c3, e2, e3 q (by omega)]
      by_cases c4 : q = i
      · rw [c4]; exact lo (by omega)
      · exact elt_trans (lo (by omega)) (h.right i q (by omega) (by omega) q1)
    · rw [e3 p (by omega), e3 q (by omega)]
      exact h.right _ _ (by omega) pq q1
theorem single_right {E : Nat → Ent} {a m i : Nat} (h : Mrg E a m (m + 1)) (h1 : a ≤ i) (h2 : i ≤ m) (lo : a < i → elt (E (i - 1)) (E m)) (hi : i < m → elt (E m) (E i)) : Sorted (rotF E i m (m + 1)) a (m + 1) := by
  intro p q p1 pq q1
  have e1 : ∀ k, k < i → rotF E i m (m + 1) k = E k := fun k k1 => by
    unfold rotF
    rw [if_neg (by omega), if_neg (by omega)]
  have e2 : rotF E i m (m + 1) i = E m := by
    unfold rotF
    rw [if_pos (by omega)]
    exact congrArg E (by omega)
  have e3 : ∀ k, i < k → k < m + 1 → rotF E i m (m + 1) k = E (k - 1) := fun k k1 k2 => by
    unfold rotF
    rw [if_neg (by omega), if_pos (by omega)]
    exact congrArg E (by omega)
  by_cases c1 : p < i
  · rw [e1 p c1]
    by_cases c2 : q < i
    · rw [e1 q c2]
      exact h.left _ _ p1 pq (by omega)
    · by_cases c3 : q = i
      · rw [c3, e2]
        by_cases c4 : p = i - 1
        · rw [c4]; exact lo (by omega)
        · exact elt_trans (h.left p (i - 1) p1 (by omega) (by omega)) (lo (by omega))
      · rw [e3 q (by omega) q1]
        exact h.left _ _ p1 (by omega) (by omega)
  · by_cases c3 : p = i
    · rw [c3, e2, e3 q (by omega) q1]
      by_cases c4 : q - 1 = i
      · rw [c4]; exact hi (by omega)
      · exact elt_trans (hi (by omega)) (h.left i (q - 1) (by omega) (by omega) (by omega))
    · rw [e3 p (by omega) (by omega), e3 q (by omega) q1]
      exact h.left _ _ (by omega) (by omega) (by omega)
/-! tables -/
/-- the place of the first one; -1: there is none -/
def fstI (N : Nat → Int) (x : Int) : Nat → Int
  | 0 => -1
  | k + 1 => if 0 ≤ fstI N x k then fstI N x k else if N k = x then k else -1
theorem fstI_spec (N : Nat → Int) (x : Int) (n : Nat) : (fstI N x n = -1 ∧ ∀ i, i < n → N i ≠ x) ∨ ∃ p : Nat, fstI N x n = p ∧ p < n ∧ N p = x ∧ ∀ i, i < p → N i ≠ x := by
  induction n with
  | zero => exact Or.inl ⟨rfl, fun i hi => by omega⟩
  | succ n ih =>
    rcases ih with ⟨h1, h2⟩ | ⟨p, h1, h2, h3, h4⟩
    · by_cases e : N n = x
      · refine Or.inr ⟨n, ?_, by omega, e, h2⟩
        unfold fstI
        rw [h1, if_neg (by omega), if_pos e]
      · refine Or.inl ⟨?_, fun i hi => ?_⟩
        · unfold fstI
          rw [h1, if_neg (by omega), if_neg e]
        · by_cases e2 : i = n
          · rw [e2]; exact e
          · exact h2 i (by omega)
    · refine Or.inr ⟨p, ?_, by omega, h3, h4⟩
      unfold fstI
      rw [h1, if_pos (by omega)]
theorem fstI_first {N : Nat → Int} {x : Int} {n p : Nat} (h1 : p < n) (h2 : N p = x) (h3 : ∀ i, i < p → N i ≠ x) : fstI N x n = p := by
  rcases fstI_spec N x n with ⟨_, k⟩ | ⟨q, e, k1, k2, k3⟩
  · exact absurd h2 (k p h1)
  · have : q = p := by
      rcases Nat.lt_trichotomy q p with h | h | h
      · exact absurd k2 (h3 q h)
      · exact h
      · exact absurd h2 (k3 p h)
    rw [e, this]
/-- sorted entries: names in order, each with its places in order -/
structure TabS (N : Nat → Int) (n : Nat) (E : Nat → Ent) : Prop where
  sorted : Sorted E 0 n
  mem : ∀ e, Mem E 0 n e ↔ Mem (fun i => (N i, (i : Int))) 0 n e
theorem TabS.le {N : Nat → Int} {n : Nat} {E : Nat → Ent} (h : TabS N n E) {i j : Nat} (hij : i ≤ j) (hj : j < n) : (E i).1 ≤ (E j).1 := by
  by_cases e : i = j
  · rw [e]; exact Int.le_refl _
  · have := h.sorted i j (by omega) (by omega) hj
    unfold elt at this
    omega
/-- the first one of a name is the first place of the name -/
theorem TabS.first {N : Nat → Int} {n : Nat} {E : Nat → Ent} (h : TabS N n E) {k : Nat} (hk : k < n) (hf : k = 0 ∨ (E (k - 1)).1 ≠ (E k).1) : fstI N (E k).1 n = (E k).2 := by
  obtain ⟨p, p1, p2, p3⟩ := (h.mem (E k)).1 ⟨k, by omega, hk, rfl⟩
  have e1 : N p = (E k).1 := by rw [← p3]
  have e2 : (p : Int) = (E k).2 := by rw [← p3]
  rw [← e2]
  refine fstI_first p2 e1 fun i hi hni => ?_
  obtain ⟨j, j1, j2, j3⟩ := (h.mem (N i, (i : Int))).2 ⟨i, by omega, by omega, rfl⟩
  have n1 : (E j).1 = (E k).1 := by rw [j3]; exact hni
  have n2 : (E j).2 = (i : Int) := by rw [j3]
  rcases Nat.lt_trichotomy j k with c | c | c
  · rcases hf with h0 | h0
    · omega
    · have l1 := h.le (show j ≤ k - 1 by omega) (by omega)
      have l2 := h.le (show k - 1 ≤ k by omega) hk
      exact h0 (by omega)
  · subst c; omega
  · have := h.sorted k j (by omega) c j2
    unfold elt at this
    omega
/-- a name that is none of the entries' is nowhere -/
theorem TabS.none {N : Nat → Int} {n : Nat} {E : Nat → Ent} (h : TabS N n E) {x : Int} (hx : ∀ k, k < n → (E k).1 ≠ x) : fstI N x n = -1 := by
  rcases fstI_spec N x n with ⟨k, _⟩ | ⟨p, _, k1, k2, _⟩
  · exact k
  · obtain ⟨j, _, j2, j3⟩ := (h.mem (N p, (p : Int))).2 ⟨p, by omega, k1, rfl⟩
    exact absurd (by rw [j3]; exact k2) (hx j j2)
end Go.Proofs.Ytkhdielfnphheaa
