/- Plain laws of tables of names: compaction, and the search. -/
import Derived.Test.YtkhdielfnphheaaSrt2
namespace Go.Proofs.Ytkhdielfnphheaa

def kp (E : Nat → Ent) (k : Nat) : Prop := k = 0 ∨ (E k).1 ≠ (E (k - 1)).1
instance (E : Nat → Ent) (k : Nat) : Decidable (kp E k) := by unfold kp; exact inferInstance
def keptL (E : Nat → Ent) : Nat → List Ent
  | 0 => []
  | k + 1 => keptL E k ++ (if kp E k then [E k] else [])
theorem kept_len (E : Nat → Ent) (k : Nat) : (keptL E k).length ≤ k := by
  induction k with
  | zero => exact Nat.le_refl _
  | succ k ih =>
    unfold keptL
    rw [List.length_append]
    split <;> simp <;> omega
theorem kept_all (E : Nat → Ent) (n : Nat) : (keptL E n).length = n ↔ ∀ k, k < n → kp E k := by
  induction n with
  | zero => exact ⟨fun _ k hk => by omega, fun _ => rfl⟩
  | succ n ih =>
    have hl := kept_len E n
    constructor
    · intro h k hk
      unfold keptL at h
      rw [List.length_append] at h
      split at h
      · rename_i hn
        simp at h
        by_cases e : k = n
        · rw [e]; exact hn
        · exact ih.1 h k (by omega)
      · simp at h; omega
    · intro h
      unfold keptL
      rw [List.length_append, ih.2 (fun k hk => h k (by omega)), if_pos (h n (by omega))]
      rfl
theorem kept_mem {E : Nat → Ent} {n : Nat} {e : Ent} (h : e ∈ keptL E n) : ∃ k, k < n ∧ kp E k ∧ E k = e := by
  induction n with
  | zero => cases h
  | succ n ih =>
    unfold keptL at h
    rcases List.mem_append.1 h with h | h
    · obtain ⟨k, h1, h2, h3⟩ := ih h
      exact ⟨k, by omega, h2, h3⟩
    · split at h
      · rename_i hn
        obtain rfl := List.mem_singleton.1 h
        exact ⟨n, by omega, hn, rfl⟩
      · cases h
theorem kept_of {E : Nat → Ent} {n k : Nat} (hk : k < n) (h : kp E k) : E k ∈ keptL E n := by
  induction n with
  | zero => omega
  | succ n ih =>
    unfold keptL
    by_cases e : k = n
    · subst e
      rw [if_pos h]
      exact List.mem_append_right _ (List.mem_singleton.2 rfl)
    · exact List.mem_append_left _ (ih (by omega))
/-- the first one of a run is kept -/
theorem kept_run {E : Nat → Ent} {n : Nat} (k : Nat) (hk : k < n) : ∃ j, j ≤ k ∧ kp E j ∧ (E j).1 = (E k).1 := by
  induction k with
  | zero => exact ⟨0, Nat.le_refl _, Or.inl rfl, rfl⟩
  | succ k ih =>
    by_cases h : kp E (k + 1)
    · exact ⟨k + 1, Nat.le_refl _, h, rfl⟩
    · obtain ⟨j, h1, h2, h3⟩ := ih (by omega)
      refine ⟨j, by omega, h2, h3.trans ?_⟩
      unfold kp at h
      have h4 : ¬ (E (k + 1)).1 ≠ (E (k + 1 - 1)).1 := fun h5 => h (Or.inr h5)
      have h6 : (E (k + 1)).1 = (E (k + 1 - 1)).1 := Classical.not_not.1 h4
      rw [h6]; rfl
structure TabK (N : Nat → Int) (n : Nat) (T : List Ent) : Prop where
  up : ∀ i j, i < j → j < T.length → (T.getD i (0, 0)).1 < (T.getD j (0, 0)).1
  first : ∀ i, i < T.length → fstI N (T.getD i (0, 0)).1 n = (T.getD i (0, 0)).2
  none : ∀ x, (∀ i, i < T.length → (T.getD i (0, 0)).1 ≠ x) → fstI N x n = -1
  len : T.length ≤ n
  twice : T.length < n ↔ ∃ i, i < n ∧ fstI N (N i) n ≠ i
theorem getD_mem {T : List Ent} {i : Nat} (h : i < T.length) : T.getD i (0, 0) ∈ T := by
  rw [List.getD_eq_getElem?_getD, List.getElem?_eq_getElem h]
  exact List.getElem_mem h
theorem mem_getD {T : List Ent} {e : Ent} (h : e ∈ T) : ∃ i, i < T.length ∧ T.getD i (0, 0) = e := by
  obtain ⟨i, h1, h2⟩ := List.mem_iff_getElem.1 h
  exact ⟨i, h1, by rw [List.getD_eq_getElem?_getD, List.getElem?_eq_getElem h1]; exact h2⟩
theorem kept_up {N : Nat → Int} {n : Nat} {E : Nat → Ent} (h : TabS N n E) (k : Nat) (hk : k ≤ n) : ∀ i j, i < j → j < (keptL E k).length → ((keptL E k).getD i (0, 0)).1 < ((keptL E k).getD j (0, 0)).1 := by
  induction k with
  | zero => intro i j h1 h2; cases h2
  | succ k ih =>
    intro i j h1 h2
    have ih := ih (by omega)
    unfold keptL at h2 ⊢
    by_cases hkp : kp E k
    · rw [if_pos hkp] at h2 ⊢
      rw [List.length_append] at h2
      simp at h2
      have hi : i < (keptL E k).length := by omega
      have e1 : (keptL E k ++ [E k]).getD i (0, 0) = (keptL E k).getD i (0, 0) := by simp [List.getD_eq_getElem?_getD, List.getElem?_append_left hi]
      rw [e1]
      by_cases hj : j < (keptL E k).length
      · have e2 : (keptL E k ++ [E k]).getD j (0, 0) = (keptL E k).getD j (0, 0) := by simp [List.getD_eq_getElem?_getD, List.getElem?_append_left hj]
        rw [e2]
        exact ih i j h1 hj
      · have e3 : j = (keptL E k).length := by omega
        have e2 : (keptL E k ++ [E k]).getD j (0, 0) = E k := by rw [e3]; simp [List.getD_eq_getElem?_getD]
        rw [e2]
        obtain ⟨q, q1, _, q3⟩ := kept_mem (getD_mem hi)
        rw [← q3]
        have l1 := h.le (show q ≤ k - 1 by omega) (by omega)
        have l2 := h.le (show k - 1 ≤ k by omega) (by omega)
        unfold kp at hkp
        rcases hkp with h0 | h0 <;> omega
    · rw [if_neg hkp, List.append_nil] at h2 ⊢
      exact ih i j h1 h2
theorem tab_of {N : Nat → Int} {n : Nat} {E : Nat → Ent} (h : TabS N n E) : TabK N n (keptL E n) := by
  refine ⟨kept_up h n (Nat.le_refl _), fun i hi => ?_, fun x hx => ?_, kept_len E n, ?_⟩
  · obtain ⟨k, h1, h2, h3⟩ := kept_mem (getD_mem hi)
    rw [← h3]
    exact h.first h1 (h2.imp id Ne.symm)
  · refine h.none fun k hk hkx => ?_
    obtain ⟨j, j1, j2, j3⟩ := kept_run (E := E) k hk
    obtain ⟨i, i1, i2⟩ := mem_getD (kept_of (n := n) (by omega) j2)
    exact hx i i1 (by rw [i2, j3]; exact hkx)
  · have hl := kept_len E n
    constructor
    · intro hlt
      have hnot : ¬ ∀ k, k < n → kp E k := fun hall => by
        have := (kept_all E n).2 hall
        omega
      obtain ⟨k, hk⟩ := Classical.not_forall.1 hnot
      obtain ⟨hk1, hk2⟩ := Classical.not_imp.1 hk
      unfold kp at hk2
      have hk0 : k ≠ 0 := fun e => hk2 (Or.inl e)
      have hke : (E k).1 = (E (k - 1)).1 := Classical.not_not.1 fun e => hk2 (Or.inr e)
      obtain ⟨p, _, p2, p3⟩ := (h.mem (E k)).1 ⟨k, by omega, hk1, rfl⟩
      obtain ⟨q, _, q2, q3⟩ := (h.mem (E (k - 1))).1 ⟨k - 1, by omega, by omega, rfl⟩
      have hs := h.sorted (k - 1) k (by omega) (by omega) hk1
      have a1 : N p = (E k).1 := by rw [← p3]
      have a2 : (p : Int) = (E k).2 := by rw [← p3]
      have b1 : N q = (E (k - 1)).1 := by rw [← q3]
      have b2 : (q : Int) = (E (k - 1)).2 := by rw [← q3]
      unfold elt at hs
      refine ⟨p, p2, fun hf => ?_⟩
      rcases fstI_spec N (N p) n with ⟨_, w2⟩ | ⟨r, w1, _, _, w4⟩
      · exact w2 p p2 rfl
      · rw [w1] at hf
        have : r = p := by omega
        exact w4 q (by omega) (by rw [a1, b1, hke])
    · rintro ⟨i, hi, hne⟩
      rcases Nat.lt_or_ge (keptL E n).length n with c | c
      · exact c
      · exfalso
        have hall := (kept_all E n).1 (by omega)
        obtain ⟨j, _, j2, j3⟩ := (h.mem (N i, (i : Int))).2 ⟨i, by omega, hi, rfl⟩
        have := h.first j2 ((hall j j2).imp id Ne.symm)
        rw [j3] at this
        exact hne this
/-- what the search answers -/
theorem find_res {N : Nat → Int} {n : Nat} {T : List Ent} (h : TabK N n T) {x : Int} {lo : Nat} (hl : lo ≤ T.length) (h1 : ∀ i, i < lo → (T.getD i (0, 0)).1 < x) (h2 : lo < T.length → x ≤ (T.getD lo (0, 0)).1) :
    (lo < T.length → (T.getD lo (0, 0)).1 = x → fstI N x n = (T.getD lo (0, 0)).2) ∧ ((lo < T.length → (T.getD lo (0, 0)).1 ≠ x) → fstI N x n = -1) := by
  constructor
  · intro h3 h4
    rw [← h4]
    exact h.first lo h3
  · intro h3
    refine h.none x fun i hi => ?_
    rcases Nat.lt_trichotomy i lo with c | c | c
    · have := h1 i c; omega
    · subst c; exact h3 hi
    · have := h.up lo i c hi
      have := h2 (by omega)
      omega
end Go.Proofs.Ytkhdielfnphheaa
