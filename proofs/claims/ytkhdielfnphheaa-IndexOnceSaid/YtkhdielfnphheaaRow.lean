/- How rows of any elements read; worlds that agree from a block on; clones of rows. -/
import Derived.Test.YtkhdielfnphheaaClo
namespace Go.Proofs.Ytkhdielfnphheaa
open Go.RowKit

/-- from block B on, w' has w's blocks -/
structure Abv (B : Nat) (w w' : World) : Prop where
  size : w.heap.size ≤ w'.heap.size
  block : ∀ g, B ≤ g → g < w.heap.size → w'.heap[g]? = w.heap[g]?
theorem Abv.refl (B : Nat) (w : World) : Abv B w w := ⟨Nat.le_refl _, fun _ _ _ => rfl⟩
theorem Abv.trans {B : Nat} {w w1 w2 : World} (h : Abv B w w1) (k : Abv B w1 w2) : Abv B w w2 :=
  ⟨Nat.le_trans h.size k.size, fun g h1 h2 => (k.block g h1 (Nat.lt_of_lt_of_le h2 h.size)).trans (h.block g h1 h2)⟩
theorem Abv.mono {B B' : Nat} {w w' : World} (h : Abv B w w') (hb : B ≤ B') : Abv B' w w' := ⟨h.size, fun g h1 h2 => h.block g (Nat.le_trans hb h1) h2⟩
theorem Abv.of_below {B : Nat} {w w' : World} (h : Below w.heap.size w w') : Abv B w w' := ⟨h.size, fun g _ h2 => h.block g h2⟩
theorem Abv.of_frm {B A : Nat} {w w' : World} (h : FrmA w w' A) (hA : A < B) : Abv B w w' := ⟨h.size, fun g h1 h2 => h.block g h2 (by omega)⟩
theorem Abv.set {B : Nat} (w : World) (a : Addr) (u : Value) (hg : a.block < B) : Abv B w (w.setCell a u) :=
  ⟨by simp, fun g h1 _ => Below.heap_setCell w a u g (by omega)⟩
theorem Abv.cell {B : Nat} {w w' : World} {g k : Nat} {u : Value} (h : Abv B w w') (hg : B ≤ g) (hu : w.cell? ⟨g, k, none⟩ = some u) : w'.cell? ⟨g, k, none⟩ = some u :=
  (World.cell?_of_block (w := w) (a := ⟨g, k, none⟩) (h.block g hg (block_lt_of_cell (a := ⟨g, k, none⟩) hu))).trans hu
/-- what holds in each world that agrees from block B on -/
def Kept (B : Nat) (P : World → Prop) (w : World) : Prop := ∀ w2, Abv B w w2 → P w2
theorem Kept.now {B : Nat} {P : World → Prop} {w : World} (h : Kept B P w) : P w := h w (Abv.refl _ _)
theorem Kept.on {B : Nat} {P : World → Prop} {w w1 : World} (h : Kept B P w) (k : Abv B w w1) : Kept B P w1 := fun w2 k2 => h w2 (k.trans k2)
theorem Kept.low {B B' : Nat} {P : World → Prop} {w : World} (h : Kept B P w) (hb : B' ≤ B) : Kept B' P w := fun w2 k2 => h w2 (k2.mono hb)
theorem Kept.imp {B : Nat} {P Q : World → Prop} {w : World} (h : Kept B P w) (k : ∀ w, P w → Q w) : Kept B Q w := fun w2 k2 => k w2 (h w2 k2)
theorem Kept.and {B : Nat} {P Q : World → Prop} {w : World} (h : Kept B P w) (k : Kept B Q w) : Kept B (fun w => P w ∧ Q w) w := fun w2 k2 => ⟨h w2 k2, k w2 k2⟩

/-- a slice value of n elements of s cells each -/
def Row (w : World) (v : Value) (n s : Nat) (f : Nat → Nat → Value) : Prop :=
  ∃ (a : Option Addr) (cap : Nat), v = .slice a n cap ∧ (a = none → n = 0 ∧ cap = 0) ∧ (0 < n → ∃ g off, a = some ⟨g, off, none⟩ ∧ ∀ j t, j < n → t < s → w.cell? ⟨g, off + j * s + t, none⟩ = some (f j t))
theorem Row.later {w w1 : World} {v : Value} {n s : Nat} {f : Nat → Nat → Value} (h : Row w v n s f) (hb : Below w.heap.size w w1) : Row w1 v n s f := by
  obtain ⟨a, cap, hv, hn, hc⟩ := h
  refine ⟨a, cap, hv, hn, fun h0 => ?_⟩
  obtain ⟨g, off, ha, hp⟩ := hc h0
  exact ⟨g, off, ha, fun j t hj ht => cell_later hb (hp j t hj ht)⟩
theorem Row.congr {w : World} {v : Value} {n s : Nat} {f f' : Nat → Nat → Value} (h : Row w v n s f) (k : ∀ j t, j < n → t < s → f' j t = f j t) : Row w v n s f' := by
  obtain ⟨a, cap, hv, hn, hc⟩ := h
  refine ⟨a, cap, hv, hn, fun h0 => ?_⟩
  obtain ⟨g, off, ha, hp⟩ := hc h0
  exact ⟨g, off, ha, fun j t hj ht => by rw [k j t hj ht]; exact hp j t hj ht⟩
theorem Row.nil (w : World) (s : Nat) (f : Nat → Nat → Value) : Row w (.slice none 0 0) 0 s f := ⟨none, 0, rfl, fun _ => ⟨rfl, rfl⟩, fun h => by omega⟩
/-- the cells of such a row -/
def flat (s : Nat) (f : Nat → Nat → Value) : Nat → List Value
  | 0 => []
  | k + 1 => flat s f k ++ (List.range s).map (f k)
theorem flat_len (s : Nat) (f : Nat → Nat → Value) (n : Nat) : (flat s f n).length = n * s := by
  induction n with
  | zero => simp [flat]
  | succ n ih => unfold flat; rw [List.length_append, ih, Nat.succ_mul]; simp
theorem flat_get {s : Nat} {f : Nat → Nat → Value} {n j t : Nat} (hj : j < n) (ht : t < s) : (flat s f n)[j * s + t]? = some (f j t) := by
  induction n with
  | zero => omega
  | succ n ih =>
    have hl := flat_len s f n
    unfold flat
    by_cases e : j = n
    · subst e
      rw [List.getElem?_append_right (by omega), hl, show j * s + t - j * s = t by omega]
      simp [ht]
    · have h1 : j * s + t < n * s := by
        have := Nat.mul_le_mul_right s (show j + 1 ≤ n by omega)
        rw [Nat.succ_mul] at this
        omega
      rw [List.getElem?_append_left (by omega)]
      exact ih (by omega)
theorem flat_at {s : Nat} {f : Nat → Nat → Value} {n i : Nat} {u : Value} (h : (flat s f n)[i]? = some u) : ∃ j t, j < n ∧ t < s ∧ i = j * s + t ∧ u = f j t := by
  have hi := (List.getElem?_eq_some_iff.1 h).1
  rw [flat_len] at hi
  have hs : 0 < s := by
    cases s with
    | zero => simp at hi
    | succ s => omega
  have h1 : i / s < n := Nat.div_lt_of_lt_mul (by rw [Nat.mul_comm]; exact hi)
  have h2 : i % s < s := Nat.mod_lt _ hs
  have e : i = i / s * s + i % s := by rw [Nat.mul_comm]; exact (Nat.div_add_mod i s).symm
  have h3 := flat_get (f := f) h1 h2
  rw [← e, h] at h3
  exact ⟨_, _, h1, h2, e, Option.some.inj h3⟩
theorem flat_mem {s : Nat} {f : Nat → Nat → Value} {n : Nat} {u : Value} (h : u ∈ flat s f n) : ∃ j t, j < n ∧ t < s ∧ u = f j t := by
  obtain ⟨i, hi⟩ := List.mem_iff_getElem?.1 h
  obtain ⟨j, t, h1, h2, _, h4⟩ := flat_at hi
  exact ⟨j, t, h1, h2, h4⟩
theorem Row.kept {w : World} {B e s n : Nat} {v : Value} {f : Nat → Nat → Value} (h : w.ownsRow B e s v n (flat s f n)) : Kept B (fun w => Row w v n s f) w := by
  intro w2 k
  rcases h.2 with ⟨hv, h0⟩ | ⟨g, cap, cur, hv, hg, hh, _, _, _, htake⟩
  · subst h0
    rw [hv]
    exact Row.nil w2 s f
  · refine ⟨some ⟨g, 0, none⟩, cap, hv, (fun h => by cases h), fun _ => ⟨g, 0, rfl, fun j t hj ht => ?_⟩⟩
    have hc := h.cells (g := g) (by rw [hv]; rfl) (j * s + t) _ (flat_get hj ht)
    have hadd : (⟨g, 0, none⟩ : Addr).add (j * s + t) = ⟨g, 0 + j * s + t, none⟩ := by unfold Addr.add; split <;> simp_all
    rw [hadd] at hc
    exact k.cell hg hc
theorem Row.clone {w : World} {v : Value} {n s : Nat} {f : Nat → Nat → Value} (h : Row w v n s f) :
    v = .slice none 0 0 ∧ n = 0 ∨ ∃ a cap, v = .slice (some a) n cap ∧ ∀ j u, (flat s f n)[j]? = some u → w.cell? (a.add j) = some u := by
  obtain ⟨a, cap, rfl, hn, hc⟩ := h
  cases a with
  | none => obtain ⟨rfl, rfl⟩ := hn rfl; exact .inl ⟨rfl, rfl⟩
  | some a =>
    refine .inr ⟨a, cap, rfl, fun i u hu => ?_⟩
    obtain ⟨j, t, hj, ht, rfl, rfl⟩ := flat_at hu
    obtain ⟨g, off, ha, hp⟩ := hc (by omega)
    cases ha
    have hadd : (⟨g, off, none⟩ : Addr).add (j * s + t) = ⟨g, off + j * s + t, none⟩ := by unfold Addr.add; split <;> simp_all <;> omega
    rw [hadd]
    exact hp j t hj ht
theorem clone23_any (v : Value) (n : Nat) (f : Nat → Nat → Value) (w : World) (h : Row w v n 1 f) (h1 : ∀ j t, j < n → t < 1 → (f j t).oneCell' = true) (hb : n * 24 ≤ 140737488355328) : Calls Try.prog 23 #[v] w (ClonePost 94 1 n (flat 1 f n) w) := by
  rcases h.clone with ⟨rfl, rfl⟩ | ⟨a, cap, rfl, hc⟩
  · exact clone23_nil w
  · exact clone23_some a n cap _ w (flat_len _ _ _) hc (fun u hu => by obtain ⟨j, t, hj, ht, rfl⟩ := flat_mem hu; exact h1 j t hj ht) hb
theorem clone24_any (v : Value) (n : Nat) (f : Nat → Nat → Value) (w : World) (h : Row w v n 15 f) (h1 : ∀ j t, j < n → t < 15 → (f j t).oneCell' = true) (hb : n * 64 ≤ 140737488355328) : Calls Try.prog 24 #[v] w (ClonePost 58 15 n (flat 15 f n) w) := by
  rcases h.clone with ⟨rfl, rfl⟩ | ⟨a, cap, rfl, hc⟩
  · exact clone24_nil w
  · exact clone24_some a n cap _ w (flat_len _ _ _) hc (fun u hu => by obtain ⟨j, t, hj, ht, rfl⟩ := flat_mem hu; exact h1 j t hj ht) hb
theorem clone25_any (v : Value) (n : Nat) (f : Nat → Nat → Value) (w : World) (h : Row w v n 7 f) (h1 : ∀ j t, j < n → t < 7 → (f j t).oneCell' = true) (hb : n * 56 ≤ 140737488355328) : Calls Try.prog 25 #[v] w (ClonePost 99 7 n (flat 7 f n) w) := by
  rcases h.clone with ⟨rfl, rfl⟩ | ⟨a, cap, rfl, hc⟩
  · exact clone25_nil w
  · exact clone25_some a n cap _ w (flat_len _ _ _) hc (fun u hu => by obtain ⟨j, t, hj, ht, rfl⟩ := flat_mem hu; exact h1 j t hj ht) hb
theorem clone26_any (v : Value) (n : Nat) (f : Nat → Nat → Value) (w : World) (h : Row w v n 4 f) (h1 : ∀ j t, j < n → t < 4 → (f j t).oneCell' = true) (hb : n * 4 ≤ 140737488355328) : Calls Try.prog 26 #[v] w (ClonePost 23 4 n (flat 4 f n) w) := by
  rcases h.clone with ⟨rfl, rfl⟩ | ⟨a, cap, rfl, hc⟩
  · exact clone26_nil w
  · exact clone26_some a n cap _ w (flat_len _ _ _) hc (fun u hu => by obtain ⟨j, t, hj, ht, rfl⟩ := flat_mem hu; exact h1 j t hj ht) hb
end Go.Proofs.Ytkhdielfnphheaa
