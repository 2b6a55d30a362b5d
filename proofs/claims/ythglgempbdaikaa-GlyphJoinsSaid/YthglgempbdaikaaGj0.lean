/- Plain laws of letters that are set one behind the other. -/
import Derived.Test.YthglgempbdaikaaPc1
namespace Go.Proofs.Ythglgempbdaikaa
open Go.RowKit

/-- a glyph -/
structure Gl where
  code : Int
  adv : Int
  n : Nat
  F : Nat → Nat → Int
def mayG (g : Gl) : Bool := decide ((33 ≤ g.code ∧ g.code ≤ 126) ∧ (0 ≤ g.adv ∧ g.adv ≤ 8388607) ∧ checkE g.F g.n = 0)
def sclI (n size : Int) : Int := (2 * n * size + 1024) / 2048
/-- where a letter is set: the size, and the place -/
structure SE where
  size : Int
  ax : Int
  ay : Int
def vX (e : SE) (pen x : Int) : Int := e.ax + sclI (pen + x) e.size
def vY (e : SE) (y : Int) : Int := e.ay + sclI y e.size
def okP (e : SE) (pen x y : Int) : Bool := decide (pen + x ≤ 8388607 ∧ -8388607 ≤ pen + x) && fits (vX e pen x) (vY e y)
/-- a step of which k points are set -/
def stepV (e : SE) (pen : Int) (s : Nat → Int) (k : Nat) : Nat → Int := fun t => if t = 0 then s 0 else if (t - 1) / 2 < k then (if t % 2 = 1 then vX e pen (s t) else vY e (s t)) else 0
def okTo (e : SE) (pen : Int) (s : Nat → Int) : Nat → Bool
  | 0 => true
  | k + 1 => okTo e pen s k && okP e pen (s (1 + 2 * k)) (s (2 + 2 * k))
theorem okTo_lt {e : SE} {pen : Int} {s : Nat → Int} {k n : Nat} (hk : k < n) (h : okP e pen (s (1 + 2 * k)) (s (2 + 2 * k)) = false) : okTo e pen s n = false := by
  induction n with
  | zero => omega
  | succ n ih =>
    unfold okTo
    by_cases e1 : k = n
    · rw [← e1, h, Bool.and_false]
    · rw [ih (by omega), Bool.false_and]
def stepO (e : SE) (pen : Int) (s : Nat → Int) : Bool := okTo e pen s (usesN (s 0))
def stepM (e : SE) (pen : Int) (s : Nat → Int) : Nat → Int := stepV e pen s (usesN (s 0))
/-- the first k steps of a glyph -/
def okS (e : SE) (pen : Int) (F : Nat → Nat → Int) : Nat → Bool
  | 0 => true
  | k + 1 => okS e pen F k && stepO e pen (F k)
theorem okS_lt {e : SE} {pen : Int} {F : Nat → Nat → Int} {k n : Nat} (hk : k < n) (h : stepO e pen (F k) = false) : okS e pen F n = false := by
  induction n with
  | zero => omega
  | succ n ih =>
    unfold okS
    by_cases e1 : k = n
    · rw [← e1, h, Bool.and_false]
    · rw [ih (by omega), Bool.false_and]
def stepsL (e : SE) (pen : Int) (F : Nat → Nat → Int) (k : Nat) : List (Nat → Int) := (List.range k).map fun j => stepM e pen (F j)
theorem stepsL_succ (e : SE) (pen : Int) (F : Nat → Nat → Int) (k : Nat) : stepsL e pen F (k + 1) = stepsL e pen F k ++ [stepM e pen (F k)] := by simp [stepsL, List.range_succ]
theorem stepsL_len (e : SE) (pen : Int) (F : Nat → Nat → Int) (k : Nat) : (stepsL e pen F k).length = k := by simp [stepsL]
/-- how far the letters are set -/
structure RunS where
  err : Int
  pen : Int
  out : List (Nat → Int)
def lettE (e : SE) (r : RunS) (g : Gl) : Int := if 200 < r.out.length + g.n then 7 else if okS e r.pen g.F g.n = false then 4 else if 8388607 < r.pen + g.adv then 4 else 0
def lettR (e : SE) (r : RunS) (g : Gl) : RunS := ⟨0, r.pen + g.adv, r.out ++ stepsL e r.pen g.F g.n⟩
def findG (G : Nat → Gl) (c : Int) : Nat → Option Nat
  | 0 => none
  | k + 1 => match findG G c k with
    | some j => some j
    | none => if (G k).code = c then some k else none
theorem findG_lt {G : Nat → Gl} {c : Int} {n j : Nat} (h : findG G c n = some j) : j < n := by
  induction n with
  | zero => cases h
  | succ n ih =>
    unfold findG at h
    split at h
    · rename_i j2 h2
      obtain rfl := Option.some.inj h
      have := ih h2
      omega
    · split at h
      · obtain rfl := Option.some.inj h
        omega
      · cases h
theorem findG_stays {G : Nat → Gl} {c : Int} {n m j : Nat} (h : findG G c n = some j) (hm : n ≤ m) : findG G c m = some j := by
  induction m with
  | zero => obtain rfl : n = 0 := by omega
            exact h
  | succ m ih =>
    by_cases e : n = m + 1
    · rw [← e]; exact h
    · unfold findG
      rw [ih (by omega)]
def getE (fn : Nat) (G : Nat → Gl) (c : Int) : Int := match findG G c fn with
  | none => 8
  | some j => if mayG (G j) = true then 0 else 2
def getG (fn : Nat) (G : Nat → Gl) (c : Int) : Gl := match findG G c fn with
  | none => ⟨0, 0, 0, fun _ _ => 0⟩
  | some j => if mayG (G j) = true then G j else ⟨0, 0, 0, fun _ _ => 0⟩
def byteE (e : SE) (fn : Nat) (G : Nat → Gl) (r : RunS) (c : Int) : Int := if getE fn G c ≠ 0 then getE fn G c else lettE e r (getG fn G c)
def byteR (e : SE) (fn : Nat) (G : Nat → Gl) (r : RunS) (c : Int) : RunS := if byteE e fn G r c ≠ 0 then ⟨byteE e fn G r c, r.pen, r.out⟩ else lettR e r (getG fn G c)
def runK (e : SE) (fn : Nat) (G : Nat → Gl) (B : Nat → Int) : Nat → RunS
  | 0 => ⟨0, 0, []⟩
  | k + 1 => if (runK e fn G B k).err ≠ 0 then runK e fn G B k else byteR e fn G (runK e fn G B k) (B k)
def badE (e : SE) : Bool := !(decide (1 ≤ e.size ∧ e.size ≤ 65536) && fits e.ax e.ay)
def setE (e : SE) (fn : Nat) (G : Nat → Gl) (B : Nat → Int) (n : Nat) : Int := if badE e = true then 2 else (runK e fn G B n).err
def setL (e : SE) (fn : Nat) (G : Nat → Gl) (B : Nat → Int) (n : Nat) : List (Nat → Int) := if setE e fn G B n = 0 then (runK e fn G B n).out else []
theorem run_stays {e : SE} {fn : Nat} {G : Nat → Gl} {B : Nat → Int} {i n : Nat} (h : (runK e fn G B i).err ≠ 0) (hi : i ≤ n) : runK e fn G B n = runK e fn G B i := by
  induction n with
  | zero => obtain rfl : i = 0 := by omega
            rfl
  | succ n ih =>
    by_cases e1 : i = n + 1
    · rw [e1]
    · have := ih (by omega)
      show (if (runK e fn G B n).err ≠ 0 then runK e fn G B n else _) = _
      rw [this, if_pos h]
theorem run_ok {e : SE} {fn : Nat} {G : Nat → Gl} {B : Nat → Int} {i n : Nat} (h : (runK e fn G B n).err = 0) (hi : i ≤ n) : (runK e fn G B i).err = 0 := by
  apply Classical.byContradiction
  intro hne
  have := run_stays hne hi
  rw [this] at h
  exact hne h
/-- a round that goes well -/
theorem run_step {e : SE} {fn : Nat} {G : Nat → Gl} {B : Nat → Int} {n : Nat} (h : (runK e fn G B (n + 1)).err = 0) : getE fn G (B n) = 0 ∧ lettE e (runK e fn G B n) (getG fn G (B n)) = 0 ∧ runK e fn G B (n + 1) = lettR e (runK e fn G B n) (getG fn G (B n)) := by
  have h0 := run_ok h (Nat.le_succ n)
  have e1 : runK e fn G B (n + 1) = byteR e fn G (runK e fn G B n) (B n) := by
    show (if (runK e fn G B n).err ≠ 0 then runK e fn G B n else _) = _
    rw [if_neg (by rw [h0]; simp)]
  rw [e1] at h
  unfold byteR at h e1
  split at h
  · rename_i h2; exact absurd h h2
  · rename_i h2
    rw [if_neg h2] at e1
    have h3 : byteE e fn G (runK e fn G B n) (B n) = 0 := Classical.not_not.1 h2
    unfold byteE at h3
    split at h3
    · rename_i h4; exact absurd h3 h4
    · rename_i h4
      exact ⟨Classical.not_not.1 h4, h3, e1⟩
theorem run_err {e : SE} {fn : Nat} {G : Nat → Gl} {B : Nat → Int} {k n : Nat} (h : (runK e fn G B k).err = 0) (hk : k < n) (hne : byteE e fn G (runK e fn G B k) (B k) ≠ 0) : (runK e fn G B n).err = byteE e fn G (runK e fn G B k) (B k) := by
  have e1 : runK e fn G B (k + 1) = ⟨byteE e fn G (runK e fn G B k) (B k), (runK e fn G B k).pen, (runK e fn G B k).out⟩ := by
    show (if (runK e fn G B k).err ≠ 0 then runK e fn G B k else byteR e fn G (runK e fn G B k) (B k)) = _
    rw [if_neg (by rw [h]; simp)]
    unfold byteR
    rw [if_pos hne]
  have e2 : (runK e fn G B (k + 1)).err ≠ 0 := by rw [e1]; exact hne
  rw [run_stays e2 (by omega), e1]
theorem run_next {e : SE} {fn : Nat} {G : Nat → Gl} {B : Nat → Int} {k : Nat} (h : (runK e fn G B k).err = 0) (h0 : byteE e fn G (runK e fn G B k) (B k) = 0) : runK e fn G B (k + 1) = lettR e (runK e fn G B k) (getG fn G (B k)) := by
  show (if (runK e fn G B k).err ≠ 0 then runK e fn G B k else byteR e fn G (runK e fn G B k) (B k)) = _
  rw [if_neg (by rw [h]; simp)]
  unfold byteR
  rw [if_neg (by rw [h0]; simp)]
/-- what a letter asks, and what the pen may be -/
theorem run_pen {e : SE} {fn : Nat} {G : Nat → Gl} {B : Nat → Int} {n : Nat} (h : (runK e fn G B n).err = 0) : 0 ≤ (runK e fn G B n).pen ∧ (runK e fn G B n).pen ≤ 8388607 ∧ (runK e fn G B n).out.length ≤ 200 := by
  induction n with
  | zero => exact ⟨Int.le_refl _, (by decide : (0 : Int) ≤ 8388607), (by decide : 0 ≤ 200)⟩
  | succ n ih =>
    obtain ⟨h1, h2, h3⟩ := run_step h
    obtain ⟨p1, p2, p3⟩ := ih (run_ok h (Nat.le_succ n))
    have hg : 0 ≤ (getG fn G (B n)).adv := by
      unfold getG
      unfold getE at h1
      split at h1
      · exact Int.le_refl _
      · split at h1
        · rename_i h4
          rw [if_pos h4]
          unfold mayG at h4
          exact (of_decide_eq_true h4).2.1.1
        · cases h1
    rw [h3]
    unfold lettE at h2
    split at h2
    · cases h2
    · split at h2
      · cases h2
      · split at h2
        · cases h2
        · unfold lettR
          dsimp only
          rw [List.length_append, stepsL_len]
          omega
def sumN (fn : Nat) (G : Nat → Gl) (B : Nat → Int) : Nat → Nat
  | 0 => 0
  | k + 1 => sumN fn G B k + (getG fn G (B k)).n
theorem run_len {e : SE} {fn : Nat} {G : Nat → Gl} {B : Nat → Int} {n : Nat} (h : (runK e fn G B n).err = 0) : (runK e fn G B n).out.length = sumN fn G B n := by
  induction n with
  | zero => rfl
  | succ n ih =>
    obtain ⟨h1, h2, h3⟩ := run_step h
    rw [h3]
    unfold lettR sumN
    dsimp only
    rw [List.length_append, stepsL_len, ih (run_ok h (Nat.le_succ n))]
theorem run_pre {e : SE} {fn : Nat} {G : Nat → Gl} {B : Nat → Int} {i n : Nat} (h : (runK e fn G B n).err = 0) (hi : i ≤ n) : ∃ t, (runK e fn G B n).out = (runK e fn G B i).out ++ t := by
  induction n with
  | zero => obtain rfl : i = 0 := by omega
            exact ⟨[], by simp⟩
  | succ n ih =>
    by_cases e1 : i = n + 1
    · subst e1; exact ⟨[], by simp⟩
    · obtain ⟨h1, h2, h3⟩ := run_step h
      obtain ⟨t, ht⟩ := ih (run_ok h (Nat.le_succ n)) (by omega)
      rw [h3]
      unfold lettR
      dsimp only
      rw [ht, List.append_assoc]
      exact ⟨_, rfl⟩
/-- a letter and others -/
def consB (c : Int) (B : Nat → Int) : Nat → Int := fun k => if k = 0 then c else B (k - 1)
theorem run_one (e : SE) (fn : Nat) (G : Nat → Gl) (c : Int) (B : Nat → Int) : runK e fn G (consB c B) 1 = runK e fn G (fun _ => c) 1 := rfl
theorem sumN_cons (fn : Nat) (G : Nat → Gl) (c : Int) (B : Nat → Int) (n : Nat) : sumN fn G (consB c B) (n + 1) = (getG fn G c).n + sumN fn G B n := by
  induction n with
  | zero => simp [sumN, consB]
  | succ n ih =>
    show sumN fn G (consB c B) (n + 1) + (getG fn G (consB c B (n + 1))).n = _
    rw [ih]
    have e1 : consB c B (n + 1) = B n := by simp [consB]
    rw [e1]
    show _ = (getG fn G c).n + (sumN fn G B n + (getG fn G (B n)).n)
    omega
theorem joins {e : SE} {fn : Nat} {G : Nat → Gl} {c : Int} {B : Nat → Int} {n : Nat} (h : setE e fn G (consB c B) (n + 1) = 0) :
    setE e fn G (fun _ => c) 1 = 0 ∧ (∃ t, setL e fn G (consB c B) (n + 1) = setL e fn G (fun _ => c) 1 ++ t) ∧ (setE e fn G B n = 0 → (setL e fn G (consB c B) (n + 1)).length = (setL e fn G (fun _ => c) 1).length + (setL e fn G B n).length) := by
  have hx := h
  unfold setE at h
  by_cases hb : badE e = true
  · rw [if_pos hb] at h; cases h
  · rw [if_neg hb] at h
    have h1 := run_ok h (show 1 ≤ n + 1 by omega)
    rw [run_one] at h1
    have e1 : setE e fn G (fun _ => c) 1 = 0 := by unfold setE; rw [if_neg hb]; exact h1
    obtain ⟨t, ht⟩ := run_pre h (show 1 ≤ n + 1 by omega)
    rw [run_one] at ht
    refine ⟨e1, ⟨t, ?_⟩, fun h2 => ?_⟩
    · unfold setL
      rw [if_pos hx, if_pos e1, ht]
    · have h3 := h2
      unfold setE at h3
      rw [if_neg hb] at h3
      unfold setL
      rw [if_pos hx, if_pos e1, if_pos h2, run_len h, run_len h1, run_len h3, sumN_cons]
      simp [sumN]
end Go.Proofs.Ythglgempbdaikaa
