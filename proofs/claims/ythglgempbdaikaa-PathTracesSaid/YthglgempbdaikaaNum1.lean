/- Digits of numbers, plainly. -/
import Derived.WalkKit
namespace Go.Proofs.Ythglgempbdaikaa

/-- the number of a row of digits, the lowest first -/
def val (B : Nat) : List Nat → Nat
  | [] => 0
  | x :: l => x + B * val B l
def dgF (B : Nat) : Nat → Nat → List Nat
  | 0, _ => []
  | f + 1, a => if a = 0 then [] else a % B :: dgF B f (a / B)
/-- the digits of a number, without noughts at the top -/
def dg (B a : Nat) : List Nat := dgF B a a
theorem dgF_more {B : Nat} (hB : 2 ≤ B) (f : Nat) : ∀ a, a ≤ f → dgF B f a = dgF B a a := by
  induction f using Nat.strongRecOn with
  | ind f ih =>
    intro a ha
    match f, a, ha with
    | 0, 0, _ => rfl
    | f + 1, 0, _ => simp [dgF]
    | f + 1, a + 1, ha =>
      have hlt : (a + 1) / B < a + 1 := Nat.div_lt_self (by omega) (by omega)
      unfold dgF
      rw [if_neg (by omega), if_neg (by omega), ih f (by omega) _ (by omega)]
      by_cases e : f = a
      · subst e; rw [ih f (by omega) _ (by omega)]
      · rw [ih a (by omega) _ (by omega)]
theorem dg_zero (B : Nat) : dg B 0 = [] := rfl
theorem dg_step {B : Nat} (hB : 2 ≤ B) {a : Nat} (ha : 0 < a) : dg B a = a % B :: dg B (a / B) := by
  match a, ha with
  | a + 1, _ =>
    have hlt : (a + 1) / B < a + 1 := Nat.div_lt_self (by omega) (by omega)
    unfold dg
    rw [dgF, if_neg (by omega), dgF_more hB a _ (by omega)]
theorem val_dg {B : Nat} (hB : 2 ≤ B) (a : Nat) : val B (dg B a) = a := by
  induction a using Nat.strongRecOn with
  | ind a ih =>
    by_cases h : a = 0
    · subst h; rfl
    · rw [dg_step hB (by omega)]
      unfold val
      rw [ih _ (Nat.div_lt_self (by omega) (by omega))]
      exact Nat.mod_add_div a B
theorem dg_lt {B : Nat} (hB : 2 ≤ B) (a : Nat) : ∀ x ∈ dg B a, x < B := by
  induction a using Nat.strongRecOn with
  | ind a ih =>
    by_cases h : a = 0
    · subst h; intro x hx; cases hx
    · rw [dg_step hB (by omega)]
      intro x hx
      rcases List.mem_cons.1 hx with rfl | hx
      · exact Nat.mod_lt _ (by omega)
      · exact ih _ (Nat.div_lt_self (by omega) (by omega)) x hx
theorem dg_getD {B : Nat} (hB : 2 ≤ B) (a i : Nat) : (dg B a).getD i 0 = a / B ^ i % B := by
  induction i generalizing a with
  | zero =>
    by_cases h : a = 0
    · subst h; simp [dg_zero]
    · rw [dg_step hB (by omega)]; simp
  | succ i ih =>
    by_cases h : a = 0
    · subst h; simp [dg_zero]
    · rw [dg_step hB (by omega), List.getD_cons_succ, ih, Nat.div_div_eq_div_mul, Nat.pow_succ, Nat.mul_comm]
theorem dg_length {B : Nat} (hB : 2 ≤ B) (k a : Nat) (h : a < B ^ k) : (dg B a).length ≤ k := by
  induction k generalizing a with
  | zero => simp at h; subst h; simp [dg_zero]
  | succ k ih =>
    by_cases h0 : a = 0
    · subst h0; simp [dg_zero]
    · rw [dg_step hB (by omega)]
      have := ih (a / B) (Nat.div_lt_of_lt_mul (by rw [Nat.mul_comm, ← Nat.pow_succ]; exact h))
      simp; omega
theorem val_lt {B : Nat} (l : List Nat) (h : ∀ x ∈ l, x < B) : val B l < B ^ l.length := by
  induction l with
  | nil => simp [val]
  | cons x l ih =>
    have h1 := ih (fun y hy => h y (List.mem_cons_of_mem _ hy))
    have h2 := h x (List.mem_cons_self ..)
    unfold val
    have h3 := Nat.mul_le_mul_left B (show val B l + 1 ≤ B ^ l.length from h1)
    rw [List.length_cons, Nat.pow_succ, Nat.mul_comm (B ^ _)]
    rw [Nat.mul_add] at h3
    omega
theorem val_app {B : Nat} (l m : List Nat) : val B (l ++ m) = val B l + B ^ l.length * val B m := by
  induction l with
  | nil => simp [val]
  | cons x l ih => simp only [List.cons_append, val, ih, List.length_cons, Nat.pow_succ, Nat.mul_add]; rw [Nat.mul_comm (B ^ l.length) B, Nat.mul_assoc]; omega
theorem dg_val_last {B : Nat} (hB : 2 ≤ B) (l : List Nat) (h : ∀ x ∈ l, x < B) (hl : ∀ x, l.getLast? = some x → x ≠ 0) : dg B (val B l) = l := by
  induction l with
  | nil => rfl
  | cons x l ih =>
    have h1 := h x (List.mem_cons_self ..)
    have h2 : 0 < val B (x :: l) := by
      cases l with
      | nil => have := hl x rfl; simp [val]; omega
      | cons y m =>
        have := ih (fun z hz => h z (List.mem_cons_of_mem _ hz)) (fun z hz => hl z (by rw [List.getLast?_cons_cons]; exact hz))
        have h3 : val B (y :: m) ≠ 0 := by intro e; rw [e] at this; cases this
        show 0 < x + B * val B (y :: m)
        have := Nat.mul_pos (show 0 < B by omega) (Nat.pos_of_ne_zero h3)
        omega
    rw [dg_step hB h2]
    unfold val
    rw [Nat.add_mul_mod_self_left, Nat.mod_eq_of_lt h1, Nat.add_mul_div_left _ _ (by omega), Nat.div_eq_of_lt h1, Nat.zero_add, ih (fun z hz => h z (List.mem_cons_of_mem _ hz)) ?_]
    intro z hz
    cases l with
    | nil => cases hz
    | cons y m => exact hl z (by rw [List.getLast?_cons_cons]; exact hz)
theorem val_zeros {B : Nat} (l : List Nat) (h : ∀ j, j < l.length → l.getD j 0 = 0) : val B l = 0 := by
  induction l with
  | nil => rfl
  | cons x l ih =>
    have h0 := h 0 (by simp)
    have h1 := ih (fun j hj => by have := h (j + 1) (by simpa using hj); simpa using this)
    simp at h0
    unfold val
    rw [h1, h0]
    simp
theorem val_take {B : Nat} (l : List Nat) (n : Nat) (h : ∀ j, n ≤ j → j < l.length → l.getD j 0 = 0) : val B (l.take n) = val B l := by
  have e := val_app (B := B) (l.take n) (l.drop n)
  rw [List.take_append_drop] at e
  rw [e, val_zeros (l.drop n)]
  · simp
  · intro j hj
    have h1 : n + j < l.length := by simp at hj; omega
    have := h (n + j) (by omega) h1
    rw [List.getD_eq_getElem?_getD, List.getElem?_drop, ← List.getD_eq_getElem?_getD]
    exact this
/-- what is left when the noughts at the top are cut off -/
theorem dg_cut {B : Nat} (hB : 2 ≤ B) (l : List Nat) (n : Nat) (hn : n ≤ l.length) (hl : ∀ x ∈ l, x < B) (h : ∀ j, n ≤ j → j < l.length → l.getD j 0 = 0) (h1 : n = 0 ∨ l.getD (n - 1) 0 ≠ 0) : l.take n = dg B (val B l) := by
  rw [← val_take l n h, dg_val_last hB]
  · intro x hx; exact hl x (List.mem_of_mem_take hx)
  · intro x hx
    rcases h1 with rfl | h1
    · simp at hx
    · rw [List.getLast?_eq_getElem?, List.getElem?_take] at hx
      have hlen : (List.take n l).length = n := by simp; omega
      rw [hlen] at hx
      rw [List.getD_eq_getElem?_getD] at h1
      split at hx
      · rw [hx] at h1; simpa using h1
      · cases hx
end Go.Proofs.Ythglgempbdaikaa
