/- Plain laws of a stable sort in place: exchange of parts, rotation, merging. -/
import Derived.Test.YtkhdielfnphheaaSrt0
namespace Go.Proofs.Ytkhdielfnphheaa

/-- the parts of n from a and from b change places, as far as k -/
def swpF (E : Nat → Ent) (a b k : Nat) : Nat → Ent := fun t => if a ≤ t ∧ t < a + k then E (b + (t - a)) else if b ≤ t ∧ t < b + k then E (a + (t - b)) else E t
theorem swp_zero (E : Nat → Ent) (a b : Nat) : swpF E a b 0 = E := by
  funext t
  unfold swpF
  rw [if_neg (by omega), if_neg (by omega)]
theorem swp_succ {E : Nat → Ent} {a b n k : Nat} (hab : a + n ≤ b) (hk : k < n) : swpF E a b (k + 1) = swapF (swpF E a b k) (a + k) (b + k) := by
  funext t
  unfold swapF
  by_cases h1 : t = a + k
  · subst h1
    rw [if_pos rfl]
    unfold swpF
    rw [if_pos (by omega), if_neg (by omega), if_neg (by omega)]
    congr 1
    omega
  · rw [if_neg h1]
    by_cases h2 : t = b + k
    · subst h2
      rw [if_pos rfl]
      unfold swpF
      rw [if_neg (by omega), if_pos (by omega), if_neg (by omega), if_neg (by omega)]
      congr 1
      omega
    · rw [if_neg h2]
      unfold swpF
      by_cases h3 : a ≤ t ∧ t < a + k
      · rw [if_pos (by omega), if_pos h3]
      · rw [if_neg (by omega), if_neg h3]
        by_cases h4 : b ≤ t ∧ t < b + k
        · rw [if_pos (by omega), if_pos h4]
        · rw [if_neg (by omega), if_neg h4]
/-- the parts [lo, m) and [m, hi), the second one first -/
def rotF (E : Nat → Ent) (lo m hi : Nat) : Nat → Ent := fun t => if lo ≤ t ∧ t < lo + (hi - m) then E (m + (t - lo)) else if lo + (hi - m) ≤ t ∧ t < hi then E (t - (hi - m)) else E t
theorem rot_more {E : Nat → Ent} {m i j : Nat} (hi : i ≤ m) (hij : j < i) (hj : 0 < j) : rotF (swpF E (m - i) m j) (m - (i - j)) m (m + j) = rotF E (m - i) m (m + j) := by
  funext t
  unfold rotF swpF
  repeat' split
  all_goals first
    | (exfalso; omega)
    | exact congrArg E (by omega)
theorem rot_less {E : Nat → Ent} {m i j : Nat} (hi : i ≤ m) (hij : i < j) (h0 : 0 < i) : rotF (swpF E (m - i) (m + j - i) i) (m - i) m (m + (j - i)) = rotF E (m - i) m (m + j) := by
  funext t
  unfold rotF swpF
  repeat' split
  all_goals first
    | (exfalso; omega)
    | exact congrArg E (by omega)
theorem rot_even {E : Nat → Ent} {m i : Nat} (hi : i ≤ m) : swpF E (m - i) m i = rotF E (m - i) m (m + i) := by
  funext t
  unfold rotF swpF
  have e1 : m + i - m = i := by omega
  rw [e1]
  by_cases h1 : m - i ≤ t ∧ t < m - i + i
  · rw [if_pos h1, if_pos h1]
  · rw [if_neg h1, if_neg h1]
    by_cases h2 : m ≤ t ∧ t < m + i
    · rw [if_pos h2, if_pos (by omega)]
      congr 1
      omega
    · rw [if_neg h2, if_neg (by omega)]
theorem rot_out (E : Nat → Ent) {lo m hi : Nat} (h1 : lo ≤ m) (h2 : m ≤ hi) : Out E (rotF E lo m hi) lo hi := by
  intro k hk
  unfold rotF
  rw [if_neg (by omega), if_neg (by omega)]
theorem rot_same (E : Nat → Ent) {lo m hi : Nat} (h1 : lo ≤ m) (h2 : m ≤ hi) : Same E (rotF E lo m hi) lo hi := by
  intro e
  constructor
  · rintro ⟨k, k1, k2, k3⟩
    by_cases h : k < m
    · refine ⟨k + (hi - m), by omega, by omega, ?_⟩
      unfold rotF
      rw [if_neg (by omega), if_pos (by omega), ← k3]
      congr 1
      omega
    · refine ⟨lo + (k - m), by omega, by omega, ?_⟩
      unfold rotF
      rw [if_pos (by omega), ← k3]
      congr 1
      omega
  · rintro ⟨k, k1, k2, k3⟩
    unfold rotF at k3
    split at k3
    · exact ⟨_, by omega, by omega, k3⟩
    · rw [if_pos (by omega)] at k3
      exact ⟨_, by omega, by omega, k3⟩
/-! merging -/
/-- two sorted parts; the second one's places lie behind the first one's -/
structure Mrg (E : Nat → Ent) (a m b : Nat) : Prop where
  left : Sorted E a m
  right : Sorted E m b
  place : ∀ i j, a ≤ i → i < m → m ≤ j → j < b → (E i).2 < (E j).2
/-- where the parts are cut -/
structure Cut (E : Nat → Ent) (a m b s t : Nat) : Prop where
  as : a ≤ s
  sm : s ≤ m
  mt : m ≤ t
  tb : t ≤ b
  lo : a < s → t < b → elt (E (s - 1)) (E t)
  hi : m < t → s < m → elt (E (t - 1)) (E s)
theorem Cut.all {E : Nat → Ent} {a m b s t : Nat} (h : Mrg E a m b) (c : Cut E a m b s t) : ∀ p q, (a ≤ p ∧ p < s ∨ m ≤ p ∧ p < t) → (s ≤ q ∧ q < m ∨ t ≤ q ∧ q < b) → elt (E p) (E q) := by
  intro p q hp hq
  obtain ⟨c1, c2, c3, c4, c5, c6⟩ := c
  rcases hp with hp | hp <;> rcases hq with hq | hq
  · exact h.left p q hp.1 (by omega) hq.2
  · have k := c5 (by omega) (by omega)
    have k1 : elt (E p) (E t) := by
      by_cases e : p = s - 1
      · rw [e]; exact k
      · exact elt_trans (h.left p (s - 1) hp.1 (by omega) (by omega)) k
    by_cases e : q = t
    · rw [e]; exact k1
    · exact elt_trans k1 (h.right t q c3 (by omega) hq.2)
  · have k := c6 (by omega) (by omega)
    have k1 : elt (E p) (E s) := by
      by_cases e : p = t - 1
      · rw [e]; exact k
      · exact elt_trans (h.right p (t - 1) hp.1 (by omega) (by omega)) k
    by_cases e : q = s
    · rw [e]; exact k1
    · exact elt_trans k1 (h.left s q c1 (by omega) hq.2)
  · exact h.right p q hp.1 (by omega) hq.2
/-- the two halves behind the rotation -/
theorem Cut.low {E : Nat → Ent} {a m b s t : Nat} (h : Mrg E a m b) (c : Cut E a m b s t) : Mrg (rotF E s m t) a s (s + (t - m)) := by
  obtain ⟨c1, c2, c3, c4, _, _⟩ := c
  have e1 : ∀ k, k < s → rotF E s m t k = E k := fun k hk => by unfold rotF; rw [if_neg (by omega), if_neg (by omega)]
  have e2 : ∀ k, s ≤ k → k < s + (t - m) → rotF E s m t k = E (m + (k - s)) := fun k h1 h2 => by unfold rotF; rw [if_pos (by omega)]
  refine ⟨fun i j h1 h2 h3 => ?_, fun i j h1 h2 h3 => ?_, fun i j h1 h2 h3 h4 => ?_⟩
  · rw [e1 i (by omega), e1 j h3]
    exact h.left i j h1 h2 (by omega)
  · rw [e2 i h1 (by omega), e2 j (by omega) h3]
    exact h.right _ _ (by omega) (by omega) (by omega)
  · rw [e1 i h2, e2 j h3 h4]
    exact h.place _ _ h1 (by omega) (by omega) (by omega)
theorem Cut.high {E : Nat → Ent} {a m b s t : Nat} (h : Mrg E a m b) (c : Cut E a m b s t) : Mrg (rotF E s m t) (s + (t - m)) t b := by
  obtain ⟨c1, c2, c3, c4, _, _⟩ := c
  have e1 : ∀ k, t ≤ k → rotF E s m t k = E k := fun k hk => by unfold rotF; rw [if_neg (by omega), if_neg (by omega)]
  have e2 : ∀ k, s + (t - m) ≤ k → k < t → rotF E s m t k = E (k - (t - m)) := fun k h1 h2 => by unfold rotF; rw [if_neg (by omega), if_pos (by omega)]
  refine ⟨fun i j h1 h2 h3 => ?_, fun i j h1 h2 h3 => ?_, fun i j h1 h2 h3 h4 => ?_⟩
  · rw [e2 i h1 (by omega), e2 j (by omega) h3]
    exact h.left _ _ (by omega) (by omega) (by omega)
  · rw [e1 i h1, e1 j (by omega)]
    exact h.right _ _ (by omega) h2 h3
  · rw [e2 i h1 h2, e1 j h3]
    exact h.place _ _ (by omega) (by omega) (by omega) h4
/-- behind the merging of both halves all is sorted -/
theorem Cut.done {E E1 E2 : Nat → Ent} {a m b s t : Nat} (h : Mrg E a m b) (c : Cut E a m b s t) (s1 : Sorted E1 a (s + (t - m))) (m1 : Same (rotF E s m t) E1 a (s + (t - m))) (o1 : Out (rotF E s m t) E1 a (s + (t - m)))
    (s2 : Sorted E2 (s + (t - m)) b) (m2 : Same E1 E2 (s + (t - m)) b) (o2 : Out E1 E2 (s + (t - m)) b) : Sorted E2 a b ∧ Same E E2 a b ∧ Out E E2 a b := by
  have call := c.all h
  obtain ⟨c1, c2, c3, c4, _, _⟩ := c
  refine ⟨fun i j h1 h2 h3 => ?_, ?_, ?_⟩
  · by_cases hj : j < s + (t - m)
    · rw [o2 i (by omega), o2 j (by omega)]
      exact s1 i j h1 h2 hj
    · by_cases hi : i < s + (t - m)
      · rw [o2 i (by omega)]
        obtain ⟨p, p1, p2, p3⟩ := m1.mem h1 hi
        obtain ⟨q, q1, q2, q3⟩ := m2.mem (show s + (t - m) ≤ j by omega) h3
        rw [o1 q (by omega)] at q3
        rw [← p3, ← q3]
        unfold rotF
        by_cases ps : p < s
        · rw [if_neg (by omega), if_neg (by omega)]
          by_cases qt : q < t
          · rw [if_neg (by omega), if_pos (by omega)]
            exact call _ _ (Or.inl (by omega)) (Or.inl (by omega))
          · rw [if_neg (by omega), if_neg (by omega)]
            exact call _ _ (Or.inl (by omega)) (Or.inr (by omega))
        · rw [if_pos (by omega)]
          by_cases qt : q < t
          · rw [if_neg (by omega), if_pos (by omega)]
            exact call _ _ (Or.inr (by omega)) (Or.inl (by omega))
          · rw [if_neg (by omega), if_neg (by omega)]
            exact call _ _ (Or.inr (by omega)) (Or.inr (by omega))
      · exact s2 i j (by omega) h2 h3
  · exact ((rot_same E (by omega : s ≤ m) c3).wide (rot_out E (by omega) c3) c1 c4).trans ((m1.wide o1 (Nat.le_refl _) (by omega)).trans (m2.wide o2 (by omega) (Nat.le_refl _)))
  · exact ((rot_out E (by omega : s ≤ m) c3).wide c1 c4).trans ((o1.wide (Nat.le_refl _) (by omega)).trans (o2.wide (by omega) (Nat.le_refl _)))
end Go.Proofs.Ytkhdielfnphheaa
