/- Digits of numbers, plainly: sums, differences, words. -/
import Derived.Test.YthglgempbdaikaaNum1
namespace Go.Proofs.Ythglgempbdaikaa

def M64 : Nat := 18446744073709551616
/-- a number of at most 64 bits -/
def Small (a : Nat) : Prop := a < M64
theorem Small.dg16 {a : Nat} (h : Small a) : (dg 65536 a).length ≤ 4 := dg_length (by omega) 4 a (by unfold Small M64 at h; omega)
theorem Small.dg32 {a : Nat} (h : Small a) : (dg 4294967296 a).length ≤ 2 := dg_length (by omega) 2 a (by unfold Small M64 at h; omega)
theorem Small.le {a b : Nat} (h : Small b) (hab : a ≤ b) : Small a := Nat.lt_of_le_of_lt hab h
theorem Small.of {a : Nat} (h : a ≤ 9223372036854775808) : Small a := by unfold Small M64; omega
theorem val_snoc {B : Nat} (l : List Nat) (x : Nat) : val B (l ++ [x]) = val B l + B ^ l.length * x := by rw [val_app]; simp [val]
theorem mod_next (B a k : Nat) : a % B ^ (k + 1) = a % B ^ k + B ^ k * (a / B ^ k % B) := Nat.mod_pow_succ
theorem dg_lt_pow {B : Nat} (hB : 2 ≤ B) (a : Nat) : a < B ^ (dg B a).length := by
  have h := val_lt (B := B) (dg B a) (dg_lt hB a)
  rwa [val_dg hB] at h
theorem dg_len_zero {B : Nat} (hB : 2 ≤ B) (a : Nat) : (dg B a).length = 0 ↔ a = 0 := by
  constructor
  · intro h; have := dg_lt_pow hB a; rw [h] at this; simp at this; exact this
  · intro h; subst h; rfl
theorem dg_len_mono {B : Nat} (hB : 2 ≤ B) {a b : Nat} (h : a ≤ b) : (dg B a).length ≤ (dg B b).length := dg_length hB _ a (Nat.lt_of_le_of_lt h (dg_lt_pow hB b))
/-- one digit more of a sum -/
theorem add_next {B a b k c : Nat} {l : List Nat} (hl : l.length = k) (h : val B l + B ^ k * c = a % B ^ k + b % B ^ k) :
    val B (l ++ [(a / B ^ k % B + b / B ^ k % B + c) % B]) + B ^ (k + 1) * ((a / B ^ k % B + b / B ^ k % B + c) / B) = a % B ^ (k + 1) + b % B ^ (k + 1) := by
  have e := Nat.mod_add_div (a / B ^ k % B + b / B ^ k % B + c) B
  rw [val_snoc, hl, mod_next B a, mod_next B b, Nat.pow_succ, Nat.mul_assoc]
  have : B ^ k * ((a / B ^ k % B + b / B ^ k % B + c) % B) + B ^ k * (B * ((a / B ^ k % B + b / B ^ k % B + c) / B)) = B ^ k * (a / B ^ k % B) + B ^ k * (b / B ^ k % B) + B ^ k * c := by
    rw [← Nat.mul_add, e, Nat.mul_add, Nat.mul_add]
  omega
theorem add_end {B a b k c : Nat} {l : List Nat} (hB : 2 ≤ B) (ha : a < B ^ k) (hb : b < B ^ k) (h : val B l + B ^ (k + 1) * c = a % B ^ (k + 1) + b % B ^ (k + 1)) : val B l = a + b := by
  have e : B ^ k * 2 ≤ B ^ (k + 1) := by rw [Nat.pow_succ]; exact Nat.mul_le_mul_left _ hB
  rw [Nat.mod_eq_of_lt (by omega), Nat.mod_eq_of_lt (by omega)] at h
  have hc : c = 0 := by
    rcases Nat.eq_zero_or_pos c with h0 | h0
    · exact h0
    · have := Nat.mul_le_mul_left (B ^ (k + 1)) h0
      omega
  subst hc
  omega
/-- one digit more of a difference -/
theorem sub_next {B a b k c : Nat} {l : List Nat} (hB : 0 < B) (hc : c ≤ 1) (hl : l.length = k) (h : val B l + b % B ^ k = a % B ^ k + B ^ k * c) :
    val B (l ++ [(B + a / B ^ k % B - b / B ^ k % B - c) % B]) + b % B ^ (k + 1) = a % B ^ (k + 1) + B ^ (k + 1) * (1 - (B + a / B ^ k % B - b / B ^ k % B - c) / B) ∧ 1 - (B + a / B ^ k % B - b / B ^ k % B - c) / B ≤ 1 := by
  refine ⟨?_, Nat.sub_le _ _⟩
  have hx := Nat.mod_lt (a / B ^ k) hB
  have hy := Nat.mod_lt (b / B ^ k) hB
  obtain ⟨x, hxe⟩ : ∃ x, x = a / B ^ k % B := ⟨_, rfl⟩
  obtain ⟨y, hye⟩ : ∃ y, y = b / B ^ k % B := ⟨_, rfl⟩
  rw [val_snoc, hl, mod_next B a, mod_next B b, Nat.pow_succ, Nat.mul_assoc, ← hxe, ← hye]
  rw [← hxe] at hx
  rw [← hye] at hy
  have e : (B + x - y - c) % B + y + c = x + B * (1 - (B + x - y - c) / B) := by
    by_cases hlt : B + x - y - c < B
    · rw [Nat.mod_eq_of_lt hlt, Nat.div_eq_of_lt hlt]; omega
    · have h1 : (B + x - y - c) / B = 1 := by
        apply Nat.div_eq_of_lt_le <;> omega
      rw [h1, Nat.mod_eq_sub_mul_div, h1]; omega
  have e2 : B ^ k * ((B + x - y - c) % B) + B ^ k * y + B ^ k * c = B ^ k * x + B ^ k * (B * (1 - (B + x - y - c) / B)) := by
    rw [← Nat.mul_add, ← Nat.mul_add, e, Nat.mul_add]
  omega
theorem sub_end {B a b k c : Nat} {l : List Nat} (hl : l.length = k) (hd : ∀ x ∈ l, x < B) (ha : a < B ^ k) (hba : b ≤ a) (h : val B l + b % B ^ k = a % B ^ k + B ^ k * c) : val B l = a - b := by
  rw [Nat.mod_eq_of_lt (by omega), Nat.mod_eq_of_lt (by omega)] at h
  have hv := val_lt l hd
  rw [hl] at hv
  have hc : c = 0 := by
    rcases Nat.eq_zero_or_pos c with h0 | h0
    · exact h0
    · have := Nat.mul_le_mul_left (B ^ k) h0
      omega
  subst hc
  omega
/-- how many digits of B B -/
theorem dg_len_sq {B : Nat} (hB : 2 ≤ B) (a : Nat) : (dg (B * B) a).length = ((dg B a).length + 1) / 2 := by
  have hBB : 2 ≤ B * B := by have := Nat.mul_le_mul hB hB; omega
  induction a using Nat.strongRecOn with
  | ind a ih =>
    by_cases h : a = 0
    · subst h; simp [dg_zero]
    · have hlt : a / (B * B) < a := Nat.div_lt_self (by omega) (by omega)
      rw [dg_step hBB (by omega), dg_step hB (show 0 < a by omega)]
      have := ih _ hlt
      by_cases h1 : a / B = 0
      · have h2 : a / (B * B) = 0 := by rw [← Nat.div_div_eq_div_mul, h1]; simp
        rw [h1, h2]; simp [dg_zero]
      · rw [dg_step hB (Nat.pos_of_ne_zero h1), Nat.div_div_eq_div_mul]
        simp only [List.length_cons]
        omega
theorem dg_take_snoc {B : Nat} (hB : 2 ≤ B) (a k : Nat) (hk : k < (dg B a).length) : (dg B a).take (k + 1) = (dg B a).take k ++ [a / B ^ k % B] := by
  have h := dg_getD hB a k
  rw [List.getD_eq_getElem?_getD, List.getElem?_eq_getElem hk] at h
  simp at h
  rw [List.take_succ_eq_append_getElem hk, h]
theorem two_digits (B a k : Nat) : a / (B * B) ^ k % (B * B) = a / B ^ (2 * k) % B + a / B ^ (2 * k + 1) % B * B := by
  have e : (B * B) ^ k = B ^ (2 * k) := by rw [← Nat.pow_two, ← Nat.pow_mul]
  rw [e, Nat.mod_mul, Nat.pow_succ, Nat.div_div_eq_div_mul, Nat.mul_comm B]
end Go.Proofs.Ythglgempbdaikaa
