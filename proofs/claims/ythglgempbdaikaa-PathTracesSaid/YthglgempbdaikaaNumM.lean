/- Products, plainly. -/
import Derived.Test.YthglgempbdaikaaNumL
namespace Go.Proofs.Ythglgempbdaikaa

theorem val_set {B : Nat} (l : List Nat) (i x : Nat) (h : i < l.length) : val B (l.set i x) + B ^ i * l.getD i 0 = val B l + B ^ i * x := by
  induction l generalizing i with
  | nil => cases h
  | cons y l ih =>
    cases i with
    | zero => simp [val]; omega
    | succ i =>
      have := ih i (by simpa using h)
      have e1 : val B ((y :: l).set (i + 1) x) = y + B * val B (l.set i x) := rfl
      have e2 : val B (y :: l) = y + B * val B l := rfl
      rw [e1, e2, List.getD_cons_succ, Nat.pow_succ, Nat.mul_comm (B ^ i) B, Nat.mul_assoc, Nat.mul_assoc]
      have := congrArg (B * ·) this
      simp only [Nat.mul_add] at this
      omega
theorem mem_set_lt {l : List Nat} {i x B : Nat} (h : ∀ y ∈ l, y < B) (hx : x < B) : ∀ y ∈ l.set i x, y < B := by
  intro y hy
  rcases List.mem_or_eq_of_mem_set hy with h1 | h1
  · exact h y h1
  · omega
theorem getD_set (l : List Nat) (i j x : Nat) (h : i < l.length) : (l.set i x).getD j 0 = if i = j then x else l.getD j 0 := by
  simp only [List.getD_eq_getElem?_getD, List.getElem?_set]
  split
  · rename_i e; subst e; simp
  · rfl
/-- the product of a's first i digits and b, and of the next one and b's first k ones: in the digits l; c is carried -/
def MulIn (a b n m i k c : Nat) (l : List Nat) : Prop :=
  l.length = n + m + 1 ∧ (∀ x ∈ l, x < 65536) ∧ c < 65536 ∧ (∀ j, i + m ≤ j → l.getD j 0 = 0) ∧
    val 65536 l + 65536 ^ (i + k) * c = a % 65536 ^ i * b + 65536 ^ i * (a / 65536 ^ i % 65536) * (b % 65536 ^ k)
theorem MulIn.next {a b n m i k c : Nat} {l : List Nat} (h : MulIn a b n m i k c l) (hi : i < n) (hk : k < m) :
    MulIn a b n m i (k + 1) ((l.getD (i + k) 0 + a / 65536 ^ i % 65536 * (b / 65536 ^ k % 65536) + c) / 65536) (l.set (i + k) ((l.getD (i + k) 0 + a / 65536 ^ i % 65536 * (b / 65536 ^ k % 65536) + c) % 65536)) := by
  obtain ⟨hl, hd, hc, hz, he⟩ := h
  have hx : a / 65536 ^ i % 65536 < 65536 := Nat.mod_lt _ (by omega)
  have hy : b / 65536 ^ k % 65536 < 65536 := Nat.mod_lt _ (by omega)
  have ht : l.getD (i + k) 0 < 65536 := by
    rw [List.getD_eq_getElem?_getD, List.getElem?_eq_getElem (by omega)]
    exact hd _ (List.getElem_mem _)
  have hs := val_set (B := 65536) l (i + k) ((l.getD (i + k) 0 + a / 65536 ^ i % 65536 * (b / 65536 ^ k % 65536) + c) % 65536) (by omega)
  have hmn := mod_next 65536 b k
  obtain ⟨x, hxe⟩ : ∃ x, x = a / 65536 ^ i % 65536 := ⟨_, rfl⟩
  obtain ⟨y, hye⟩ : ∃ y, y = b / 65536 ^ k % 65536 := ⟨_, rfl⟩
  obtain ⟨t, hte⟩ : ∃ t, t = l.getD (i + k) 0 := ⟨_, rfl⟩
  rw [← hxe, ← hye, ← hte] at hs ⊢
  rw [← hye] at hmn
  rw [← hxe] at he
  rw [← hxe] at hx
  rw [← hye] at hy
  rw [← hte] at ht
  have hxy : x * y ≤ 65535 * 65535 := Nat.mul_le_mul (by omega) (by omega)
  refine ⟨by simp [hl], mem_set_lt hd (by omega), by omega, ?_, ?_⟩
  · intro j hj
    rw [getD_set _ _ _ _ (by omega), if_neg (by omega)]
    exact hz j hj
  · have e := Nat.mod_add_div (t + x * y + c) 65536
    obtain ⟨r, hr⟩ : ∃ r, r = (t + x * y + c) % 65536 := ⟨_, rfl⟩
    obtain ⟨q, hq⟩ : ∃ q, q = (t + x * y + c) / 65536 := ⟨_, rfl⟩
    rw [← hr, ← hq] at e
    rw [← hr] at hs
    rw [← hxe, ← hr, ← hq, hmn]
    have hp : 65536 ^ (i + (k + 1)) = 65536 ^ (i + k) * 65536 := by rw [← Nat.add_assoc, Nat.pow_succ]
    have hp2 : 65536 ^ i * x * (b % 65536 ^ k + 65536 ^ k * y) = 65536 ^ i * x * (b % 65536 ^ k) + 65536 ^ (i + k) * (x * y) := by
      rw [Nat.mul_add, Nat.pow_add]
      congr 1
      simp only [Nat.mul_assoc, Nat.mul_left_comm, Nat.mul_comm]
    have e2 := congrArg (65536 ^ (i + k) * ·) e
    simp only [Nat.mul_add] at e2
    rw [hp, hp2, Nat.mul_assoc]
    omega
theorem MulIn.stop {a b n m i c : Nat} {l : List Nat} (h : MulIn a b n m i m c l) (hi : i < n) (hb : b < 65536 ^ m) : MulIn a b n m (i + 1) 0 0 (l.set (i + m) c) := by
  obtain ⟨hl, hd, hc, hz, he⟩ := h
  have hs := val_set (B := 65536) l (i + m) c (by omega)
  rw [hz (i + m) (Nat.le_refl _)] at hs
  refine ⟨by simp [hl], mem_set_lt hd hc, by omega, ?_, ?_⟩
  · intro j hj
    rw [getD_set _ _ _ _ (by omega), if_neg (by omega)]
    exact hz j (by omega)
  · rw [Nat.mod_eq_of_lt hb] at he
    rw [mod_next 65536 a i, Nat.add_mul]
    simp only [Nat.pow_zero, Nat.mod_one, Nat.mul_zero, Nat.add_zero] at hs ⊢
    omega
theorem MulIn.start (a b n m : Nat) : MulIn a b n m 0 0 0 (List.replicate (n + m + 1) 0) := by
  refine ⟨by simp, ?_, by omega, ?_, ?_⟩
  · intro x hx
    rw [List.eq_of_mem_replicate hx]; omega
  · intro j _
    rw [List.getD_eq_getElem?_getD, List.getElem?_replicate]
    split <;> rfl
  · rw [val_zeros]
    · simp [Nat.mod_one]
    · intro j hj
      rw [List.getD_eq_getElem?_getD, List.getElem?_replicate]
      split <;> rfl
theorem MulIn.done {a b n m : Nat} {l : List Nat} (h : MulIn a b n m n 0 0 l) (ha : a < 65536 ^ n) : val 65536 l = a * b := by
  have he := h.2.2.2.2
  rw [Nat.mod_eq_of_lt ha] at he
  simpa [Nat.mod_one] using he
end Go.Proofs.Ythglgempbdaikaa
