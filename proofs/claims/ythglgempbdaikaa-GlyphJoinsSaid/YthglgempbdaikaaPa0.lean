/- Plain laws of paths: steps, lines, ways. -/
import Derived.Test.YthglgempbdaikaaBez5
namespace Go.Proofs.Ythglgempbdaikaa
open Go.RowKit

abbrev Pt := Int × Int
def usesI (op : Int) : Int := if op = 1 then 1 else if op = 2 then 1 else if op = 3 then 2 else if op = 4 then 3 else if op = 5 then 0 else -1
def usesN (op : Int) : Nat := (usesI op).toNat
def sX (s : Nat → Int) (k : Nat) : Int := s (1 + 2 * k)
def sY (s : Nat → Int) (k : Nat) : Int := s (2 + 2 * k)
/-- what is wrong with a step -/
def rightE (s : Nat → Int) (behind : Int) : Int := if usesI (s 0) < 0 then 2 else if s 0 ≠ 1 ∧ (behind = 0 ∨ behind = 5) then 12 else if fitsTo (sX s) (sY s) (usesN (s 0)) = true then 0 else 4
def beh (F : Nat → Nat → Int) : Nat → Int
  | 0 => 0
  | i + 1 => F i 0
def chk (F : Nat → Nat → Int) : Nat → Int
  | 0 => 0
  | i + 1 => if chk F i = 0 then rightE (F i) (beh F i) else chk F i
def checkE (F : Nat → Nat → Int) (n : Nat) : Int := if 200 < n then 7 else chk F n
theorem chk_stays {F : Nat → Nat → Int} {i n : Nat} (h : chk F i ≠ 0) (hi : i ≤ n) : chk F n = chk F i := by
  induction n with
  | zero => obtain rfl : i = 0 := by omega
            rfl
  | succ n ih =>
    by_cases e : i = n + 1
    · rw [e]
    · have := ih (by omega)
      show (if chk F n = 0 then rightE (F n) (beh F n) else chk F n) = _
      rw [this, if_neg h]
theorem chk_at {F : Nat → Nat → Int} {i n : Nat} (h : chk F n = 0) (hi : i < n) : rightE (F i) (beh F i) = 0 := by
  have h1 : chk F (i + 1) = 0 := by
    apply Classical.byContradiction
    intro hne
    have := chk_stays hne (show i + 1 ≤ n by omega)
    omega
  have h2 : chk F i = 0 := by
    apply Classical.byContradiction
    intro hne
    have := chk_stays hne (show i ≤ n by omega)
    omega
  unfold chk at h1
  rwa [if_pos h2] at h1
/-- how far a path's lines have come -/
structure TS where
  done : List (List Pt × Bool)
  now : List Pt
  pos : Pt
def TS.add (t : TS) (p : Pt) : TS := ⟨t.done, if t.now = [] ∨ p ≠ t.pos then t.now ++ [p] else t.now, p⟩
def TS.adds (t : TS) (X Y : Nat → Int) : Nat → TS
  | 0 => t
  | k + 1 => (TS.adds t X Y k).add (X k, Y k)
def finL (closed : Bool) (l : List Pt) : List Pt := if closed = true ∧ 1 < l.length ∧ l.getD 0 (0, 0) = l.getD (l.length - 1) (0, 0) then l.take (l.length - 1) else l
def TS.fin (t : TS) (closed : Bool) : TS := ⟨if 1 < (finL closed t.now).length then t.done ++ [(finL closed t.now, closed)] else t.done, [], t.pos⟩
/-- a curve's points: where one is, and the step's -/
def crv (p : Pt) (s : Nat → Int) : Nat → Int := fun i => if i = 0 then p.1 else if i = 1 then p.2 else s (i - 1)
def crvN (m : Nat) (p : Pt) (s : Nat → Int) : Nat := piecesN (quadX (crv p s)) (quadY (crv p s)) m
def crvX (m : Nat) (p : Pt) (s : Nat → Int) (j : Nat) : Int := partN (quadX (crv p s)) m (crvN m p s) (j + 1)
def crvY (m : Nat) (p : Pt) (s : Nat → Int) (j : Nat) : Int := partN (quadY (crv p s)) m (crvN m p s) (j + 1)
def TS.curve (t : TS) (m : Nat) (s : Nat → Int) : TS := t.adds (crvX m t.pos s) (crvY m t.pos s) (crvN m t.pos s)
def TS.step (t : TS) (s : Nat → Int) : TS :=
  if s 0 = 1 then (t.fin false).add (s 1, s 2) else if s 0 = 2 then t.add (s 1, s 2) else if s 0 = 3 then t.curve 3 s else if s 0 = 4 then t.curve 4 s else if s 0 = 5 then t.fin true else t
def traceT (F : Nat → Nat → Int) : Nat → TS
  | 0 => ⟨[], [], (0, 0)⟩
  | i + 1 => (traceT F i).step (F i)
def traceL (F : Nat → Nat → Int) (n : Nat) : List (List Pt × Bool) := ((traceT F n).fin false).done
/-! sizes -/
theorem crvN_le (m : Nat) (p : Pt) (s : Nat → Int) : crvN m p s ≤ 32 := by
  unfold crvN piecesN
  split
  · exact (pc_le _).2
  · omega
theorem add_len (t : TS) (p : Pt) : (t.add p).now.length ≤ t.now.length + 1 ∧ (t.add p).done = t.done := by
  unfold TS.add
  constructor
  · show (if _ then _ else _ : List Pt).length ≤ _
    split <;> simp
  · rfl
theorem adds_len (t : TS) (X Y : Nat → Int) (k : Nat) : (t.adds X Y k).now.length ≤ t.now.length + k ∧ (t.adds X Y k).done = t.done := by
  induction k with
  | zero => exact ⟨Nat.le_refl _, rfl⟩
  | succ k ih =>
    have h := add_len (t.adds X Y k) (X k, Y k)
    unfold TS.adds
    exact ⟨by omega, h.2.trans ih.2⟩
theorem fin_len (t : TS) (c : Bool) : (t.fin c).now.length = 0 ∧ (t.fin c).done.length ≤ t.done.length + 1 := by
  unfold TS.fin
  constructor
  · rfl
  · show (if _ then _ else _ : List (List Pt × Bool)).length ≤ _
    split <;> simp
theorem step_len (t : TS) (s : Nat → Int) : (t.step s).now.length ≤ t.now.length + 32 ∧ (t.step s).done.length ≤ t.done.length + 1 := by
  unfold TS.step
  have f0 := fin_len t false
  have f1 := fin_len t true
  have a0 := add_len (t.fin false) (s 1, s 2)
  have a1 := add_len t (s 1, s 2)
  have c3 := adds_len t (crvX 3 t.pos s) (crvY 3 t.pos s) (crvN 3 t.pos s)
  have c4 := adds_len t (crvX 4 t.pos s) (crvY 4 t.pos s) (crvN 4 t.pos s)
  have l3 := crvN_le 3 t.pos s
  have l4 := crvN_le 4 t.pos s
  unfold TS.curve
  repeat' split
  · exact ⟨by omega, by rw [a0.2]; exact f0.2⟩
  · exact ⟨by omega, by rw [a1.2]; omega⟩
  · exact ⟨by omega, by rw [c3.2]; omega⟩
  · exact ⟨by omega, by rw [c4.2]; omega⟩
  · exact ⟨by omega, f1.2⟩
  · exact ⟨by omega, by omega⟩
theorem trace_len (F : Nat → Nat → Int) (i : Nat) : (traceT F i).now.length ≤ 32 * i ∧ (traceT F i).done.length ≤ i := by
  induction i with
  | zero => exact ⟨Nat.le_refl _, Nat.le_refl _⟩
  | succ i ih =>
    have h := step_len (traceT F i) (F i)
    unfold traceT
    omega
end Go.Proofs.Ythglgempbdaikaa
