/- Plain laws of a stable sort in place: blocks that are sorted, then merged. -/
import Derived.Test.YtkhdielfnphheaaSrt3
namespace Go.Proofs.Ytkhdielfnphheaa

/-- a part is sorted, and holds what it held -/
structure Part (E0 E : Nat → Ent) (lo hi : Nat) : Prop where
  sorted : Sorted E lo hi
  same : Same E0 E lo hi
theorem Part.none {E0 E : Nat → Ent} {lo hi : Nat} (h : hi ≤ lo) : Part E0 E lo hi :=
  ⟨fun i j h1 h2 h3 => by omega, fun e => ⟨fun ⟨k, h1, h2, _⟩ => by omega, fun ⟨k, h1, h2, _⟩ => by omega⟩⟩
theorem Part.keep {E0 E E' : Nat → Ent} {lo hi a b : Nat} (h : Part E0 E lo hi) (o : Out E E' a b) (d : hi ≤ a ∨ b ≤ lo) : Part E0 E' lo hi := by
  have e : ∀ k, lo ≤ k → k < hi → E' k = E k := fun k h1 h2 => o k (by omega)
  refine ⟨fun i j h1 h2 h3 => ?_, fun x => ⟨fun hx => ?_, fun hx => ?_⟩⟩
  · rw [e i h1 (by omega), e j (by omega) h3]; exact h.sorted i j h1 h2 h3
  · obtain ⟨k, k1, k2, k3⟩ := (h.same x).1 hx
    exact ⟨k, k1, k2, (e k k1 k2).trans k3⟩
  · obtain ⟨k, k1, k2, k3⟩ := hx
    exact (h.same x).2 ⟨k, k1, k2, (e k k1 k2).symm.trans k3⟩
theorem Same.both {E0 E : Nat → Ent} {a m b : Nat} (h : Same E0 E a m) (k : Same E0 E m b) (h1 : a ≤ m) (h2 : m ≤ b) : Same E0 E a b := by
  intro e
  constructor
  · rintro ⟨j, j1, j2, j3⟩
    by_cases c : j < m
    · obtain ⟨i, i1, i2, i3⟩ := (h e).1 ⟨j, j1, c, j3⟩
      exact ⟨i, i1, by omega, i3⟩
    · obtain ⟨i, i1, i2, i3⟩ := (k e).1 ⟨j, by omega, j2, j3⟩
      exact ⟨i, by omega, i2, i3⟩
  · rintro ⟨j, j1, j2, j3⟩
    by_cases c : j < m
    · obtain ⟨i, i1, i2, i3⟩ := (h e).2 ⟨j, j1, c, j3⟩
      exact ⟨i, i1, by omega, i3⟩
    · obtain ⟨i, i1, i2, i3⟩ := (k e).2 ⟨j, by omega, j2, j3⟩
      exact ⟨i, by omega, i2, i3⟩
/-- places in order at the start -/
def Ups (E0 : Nat → Ent) (n : Nat) : Prop := ∀ p q, p < q → q < n → (E0 p).2 < (E0 q).2
theorem Part.mrg {E0 E : Nat → Ent} {a m b n : Nat} (h : Part E0 E a m) (k : Part E0 E m b) (u : Ups E0 n) (hb : b ≤ n) : Mrg E a m b := by
  refine ⟨h.sorted, k.sorted, fun i j h1 h2 h3 h4 => ?_⟩
  obtain ⟨p, p1, p2, p3⟩ := h.same.mem h1 h2
  obtain ⟨q, q1, q2, q3⟩ := k.same.mem h3 h4
  rw [← p3, ← q3]
  exact u p q (by omega) (by omega)
theorem Part.next {E0 E E' : Nat → Ent} {a m b : Nat} (h : Part E0 E a m) (k : Part E0 E m b) (h1 : a ≤ m) (h2 : m ≤ b) (s : Sorted E' a b) (sa : Same E E' a b) : Part E0 E' a b :=
  ⟨s, (h.same.both k.same h1 h2).trans sa⟩
theorem dvd_two {s x : Nat} (h : 2 * s ∣ x) : s ∣ x := Nat.dvd_trans ⟨2, by omega⟩ h
theorem dvd_add {s x : Nat} (h : s ∣ x) : s ∣ x + s := (Nat.dvd_add_right h).2 (Nat.dvd_refl s)
theorem dvd_gap {s x a : Nat} (h : s ∣ x) (k : s ∣ a) (l : x < a) : x + s ≤ a := by
  have h1 := Nat.dvd_sub k h
  have h2 := Nat.le_of_dvd (by omega) h1
  omega
/-- the first phase: blocks below a are sorted -/
structure Ph1 (E0 E : Nat → Ent) (n s a : Nat) : Prop where
  mul : s ∣ a
  low : ∀ x, s ∣ x → x + s ≤ a → Part E0 E x (x + s)
  out : Out E0 E 0 a
/-- the second phase: blocks below a are twice as long -/
structure Ph2 (E0 E : Nat → Ent) (n s a : Nat) : Prop where
  mul : 2 * s ∣ a
  low : ∀ x, 2 * s ∣ x → x + 2 * s ≤ a → Part E0 E x (x + 2 * s)
  high : ∀ x, s ∣ x → a ≤ x → Part E0 E x (min (x + s) n)
  out : Out E0 E 0 n
theorem Ph1.start (E0 : Nat → Ent) (n s : Nat) (h : 0 < s) : Ph1 E0 E0 n s 0 := ⟨⟨0, by omega⟩, fun x _ h1 => by omega, Out.refl _ _ _⟩
theorem Out.same_at {E0 E : Nat → Ent} {a lo hi : Nat} (o : Out E0 E 0 a) (h : a ≤ lo) : Same E0 E lo hi := by
  have e : ∀ k, lo ≤ k → E k = E0 k := fun k hk => o k (by omega)
  exact fun x => ⟨fun ⟨k, k1, k2, k3⟩ => ⟨k, k1, k2, (e k k1).trans k3⟩, fun ⟨k, k1, k2, k3⟩ => ⟨k, k1, k2, (e k k1).symm.trans k3⟩⟩
theorem Ph1.ups {E0 E : Nat → Ent} {n s a : Nat} (h : Ph1 E0 E n s a) (u : Ups E0 n) : ∀ p q, a ≤ p → p < q → q < n → (E p).2 < (E q).2 := fun p q h1 h2 h3 => by
  rw [h.out p (by omega), h.out q (by omega)]; exact u p q h2 h3
theorem Ph1.next {E0 E E' : Nat → Ent} {n s a : Nat} (h : Ph1 E0 E n s a) (so : Sorted E' a (a + s)) (sa : Same E E' a (a + s)) (ou : Out E E' a (a + s)) : Ph1 E0 E' n s (a + s) := by
  refine ⟨dvd_add h.mul, fun x hx h1 => ?_, (h.out.wide (Nat.le_refl 0) (by omega)).trans (ou.wide (by omega) (Nat.le_refl _))⟩
  by_cases c : x = a
  · subst c
    exact ⟨so, (h.out.same_at (Nat.le_refl _)).trans sa⟩
  · have h2 : x < a := by
      rcases Nat.lt_trichotomy x a with k | k | k
      · exact k
      · exact absurd k c
      · have := dvd_gap h.mul hx k
        omega
    have h3 := dvd_gap hx h.mul h2
    exact (h.low x hx h3).keep ou (Or.inl h3)
theorem Ph1.done {E0 E E' : Nat → Ent} {n s a : Nat} (h : Ph1 E0 E n s a) (ha : a ≤ n) (hn : n < a + s) (so : Sorted E' a n) (sa : Same E E' a n) (ou : Out E E' a n) : Ph2 E0 E' n s 0 := by
  refine ⟨⟨0, by omega⟩, fun x _ h1 => by omega, fun x hx _ => ?_, (h.out.wide (Nat.le_refl 0) ha).trans (ou.wide (by omega) (Nat.le_refl _))⟩
  by_cases c : x = a
  · subst c
    rw [Nat.min_eq_right (by omega)]
    exact ⟨so, (h.out.same_at (Nat.le_refl _)).trans sa⟩
  · rcases Nat.lt_trichotomy x a with k | k | k
    · have h3 := dvd_gap hx h.mul k
      rw [Nat.min_eq_left (by omega)]
      exact (h.low x hx h3).keep ou (Or.inl h3)
    · exact absurd k c
    · have := dvd_gap h.mul hx k
      exact Part.none (by omega)
theorem Ph2.mrg {E0 E : Nat → Ent} {n s a b : Nat} (h : Ph2 E0 E n s a) (u : Ups E0 n) (h1 : a + s ≤ b) (h2 : b ≤ n) (h3 : b = n ∨ b = a + 2 * s) (h4 : n ≤ a + 2 * s ∨ b = a + 2 * s) : Part E0 E a (a + s) ∧ Part E0 E (a + s) b ∧ Mrg E a (a + s) b := by
  have p1 := h.high a (dvd_two h.mul) (Nat.le_refl _)
  have p2 := h.high (a + s) (dvd_add (dvd_two h.mul)) (by omega)
  rw [show min (a + s) n = a + s by omega] at p1
  rw [show min (a + s + s) n = b by omega] at p2
  exact ⟨p1, p2, p1.mrg p2 u h2⟩
theorem Ph2.next {E0 E E' : Nat → Ent} {n s a : Nat} (h : Ph2 E0 E n s a) (u : Ups E0 n) (h2 : a + 2 * s ≤ n) (so : Sorted E' a (a + 2 * s)) (sa : Same E E' a (a + 2 * s)) (ou : Out E E' a (a + 2 * s)) : Ph2 E0 E' n s (a + 2 * s) := by
  obtain ⟨p1, p2, _⟩ := h.mrg u (b := a + 2 * s) (by omega) h2 (Or.inr rfl) (Or.inr rfl)
  refine ⟨dvd_add h.mul, fun x hx h1 => ?_, fun x hx h1 => ?_, h.out.trans (ou.wide (by omega) h2)⟩
  · by_cases c : x = a
    · subst c
      exact p1.next p2 (by omega) (by omega) so sa
    · have h3 : x < a := by
        rcases Nat.lt_trichotomy x a with k | k | k
        · exact k
        · exact absurd k c
        · have := dvd_gap h.mul hx k
          omega
      have h4 := dvd_gap hx h.mul h3
      exact (h.low x hx h4).keep ou (Or.inl h4)
  · exact (h.high x hx (by omega)).keep ou (Or.inr h1)
/-- behind the last whole pair: what is left is one part -/
theorem Ph2.last {E0 E E' : Nat → Ent} {n s a : Nat} (h : Ph2 E0 E n s a) (ha : a ≤ n) (hn : n < a + 2 * s) (p : Part E0 E' a n) (ou : Out E E' a n) : Ph2 E0 E' n (2 * s) 0 := by
  refine ⟨⟨0, by omega⟩, fun x _ h1 => by omega, fun x hx _ => ?_, h.out.trans (ou.wide (by omega) (Nat.le_refl _))⟩
  by_cases c : x = a
  · subst c
    rw [Nat.min_eq_right (by omega)]
    exact p
  · rcases Nat.lt_trichotomy x a with k | k | k
    · have h3 := dvd_gap hx h.mul k
      rw [Nat.min_eq_left (by omega)]
      exact (h.low x hx h3).keep ou (Or.inl h3)
    · exact absurd k c
    · have := dvd_gap h.mul hx k
      exact Part.none (by omega)
theorem Ph2.last_none {E0 E : Nat → Ent} {n s a : Nat} (h : Ph2 E0 E n s a) (ha : a ≤ n) (hn : n ≤ a + s) : Ph2 E0 E n (2 * s) 0 := by
  by_cases c : n < a + 2 * s
  · have p1 := h.high a (dvd_two h.mul) (Nat.le_refl _)
    rw [show min (a + s) n = n by omega] at p1
    exact h.last ha c p1 (Out.refl _ _ _)
  · have : s = 0 ∧ n = a := by omega
    obtain ⟨rfl, rfl⟩ := this
    refine ⟨⟨0, by omega⟩, fun x _ h1 => Part.none (by omega), fun x hx _ => Part.none (by omega), h.out⟩
theorem Ph2.last_mrg {E0 E E' : Nat → Ent} {n s a : Nat} (h : Ph2 E0 E n s a) (u : Ups E0 n) (h1 : a + s < n) (hn : n < a + 2 * s) (so : Sorted E' a n) (sa : Same E E' a n) (ou : Out E E' a n) : Ph2 E0 E' n (2 * s) 0 := by
  obtain ⟨p1, p2, _⟩ := h.mrg u (b := n) (by omega) (Nat.le_refl n) (Or.inl rfl) (Or.inl (by omega))
  exact h.last (by omega) hn (p1.next p2 (by omega) (by omega) so sa) ou
theorem Ph2.all {E0 E : Nat → Ent} {n s : Nat} (h : Ph2 E0 E n s 0) (hn : n ≤ s) : Sorted E 0 n ∧ Same E0 E 0 n ∧ Out E0 E 0 n := by
  have p := h.high 0 ⟨0, by omega⟩ (Nat.le_refl _)
  rw [show min (0 + s) n = n by omega] at p
  exact ⟨p.sorted, p.same, h.out⟩
end Go.Proofs.Ytkhdielfnphheaa
