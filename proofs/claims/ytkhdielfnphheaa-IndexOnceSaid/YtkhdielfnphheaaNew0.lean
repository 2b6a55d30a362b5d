/- A scene's definitions, and how they read; rows of other types stay as rows grow. -/
import Derived.Test.YtkhdielfnphheaaRow
namespace Go.Proofs.Ytkhdielfnphheaa
open Go.RowKit

/-- a picture: its name, its sides, its colours -/
structure Pi where
  id : Int
  pw : Int
  ph : Int
  n : Nat
  px : Nat → Nat → Int
/-- a scene's definitions -/
structure Sc where
  nh : Nat
  nr : Nat
  ng : Nat
  np : Nat
  H : Nat → Nat → Value
  R : Nat → Nat → Int
  G : Nat → Gl
  P : Nat → Pi
def rmF (R : Nat → Nat → Int) (j t : Nat) : Value := if t < 7 then .int .i64 (R j t) else .int .u8 (R j t)
def stF (F : Nat → Nat → Int) (j t : Nat) : Value := .int .i64 (F j t)
def pxF (F : Nat → Nat → Int) (j t : Nat) : Value := .int .u8 (F j t)
def glF (G : Nat → Gl) (gv : Nat → Value) (j t : Nat) : Value := if t = 0 then .int .i64 (G j).code else if t = 1 then .int .i64 (G j).adv else gv j
def piF (P : Nat → Pi) (pv : Nat → Value) (j t : Nat) : Value := if t = 0 then .int .i64 (P j).id else if t = 1 then .int .i64 (P j).pw else if t = 2 then .int .i64 (P j).ph else pv j
def GlyV (w : World) (v : Value) (n : Nat) (G : Nat → Gl) : Prop := ∃ gv : Nat → Value, Row w v n 3 (glF G gv) ∧ ∀ j, j < n → Row w (gv j) (G j).n 7 (stF (G j).F)
def PicV (w : World) (v : Value) (n : Nat) (P : Nat → Pi) : Prop := ∃ pv : Nat → Value, Row w v n 4 (piF P pv) ∧ ∀ j, j < n → Row w (pv j) (P j).n 4 (pxF (P j).px)
/-- ramps, glyphs and pictures, as three slices -/
def DataV (S : Sc) (rm gl pc : Value) (w : World) : Prop := Row w rm S.nr 15 (rmF S.R) ∧ GlyV w gl S.ng S.G ∧ PicV w pc S.np S.P
/-- no row of a scene is too great for a clone -/
structure ScOk (S : Sc) : Prop where
  bh : S.nh * 24 ≤ 140737488355328
  br : S.nr * 64 ≤ 140737488355328
  bg : S.ng * 40 ≤ 140737488355328
  bp : S.np * 48 ≤ 140737488355328
  ch : ∀ j t, j < S.nh → t < 1 → (S.H j t).oneCell' = true
  cg : ∀ j, j < S.ng → (S.G j).n * 56 ≤ 140737488355328
  cp : ∀ j, j < S.np → (S.P j).n * 4 ≤ 140737488355328
theorem rmF_one (R : Nat → Nat → Int) (j t : Nat) : (rmF R j t).oneCell' = true := by unfold rmF; split <;> rfl
theorem stF_one (F : Nat → Nat → Int) (j t : Nat) : (stF F j t).oneCell' = true := rfl
theorem pxF_one (F : Nat → Nat → Int) (j t : Nat) : (pxF F j t).oneCell' = true := rfl
theorem GlyV.later {w w1 : World} {v : Value} {n : Nat} {G : Nat → Gl} (h : GlyV w v n G) (hb : Below w.heap.size w w1) : GlyV w1 v n G := by
  obtain ⟨gv, h1, h2⟩ := h
  exact ⟨gv, h1.later hb, fun j hj => (h2 j hj).later hb⟩
theorem PicV.later {w w1 : World} {v : Value} {n : Nat} {P : Nat → Pi} (h : PicV w v n P) (hb : Below w.heap.size w w1) : PicV w1 v n P := by
  obtain ⟨pv, h1, h2⟩ := h
  exact ⟨pv, h1.later hb, fun j hj => (h2 j hj).later hb⟩
theorem DataV.later {S : Sc} {rm gl pc : Value} {w w1 : World} (h : DataV S rm gl pc w) (hb : Below w.heap.size w w1) : DataV S rm gl pc w1 :=
  ⟨h.1.later hb, h.2.1.later hb, h.2.2.later hb⟩
theorem Row.slice {w : World} {v : Value} {n s : Nat} {f : Nat → Nat → Value} (h : Row w v n s f) : ∃ a cap, v = .slice a n cap := by
  obtain ⟨a, cap, hv, _⟩ := h
  exact ⟨a, cap, hv⟩
theorem Row.sts {w : World} {v : Value} {n : Nat} {F : Nat → Nat → Int} (h : Row w v n 7 (stF F)) (hn : n ≤ 281474976710656) : Sts w v n F := by
  obtain ⟨a, cap, hv, _, hc⟩ := h
  refine ⟨a, cap, hv, hn, fun h0 => ?_⟩
  obtain ⟨g, off, ha, hp⟩ := hc h0
  exact ⟨g, off, ha, fun j hj t ht => hp j t hj ht⟩
/-- the rows whose elements are not of type e stay -/
def Tr (B e0 : Nat) (w w' : World) : Prop := ∀ e s v n xs, e ≠ e0 → w.ownsRow B e s v n xs → w'.ownsRow B e s v n xs
theorem Tr.refl (B e0 : Nat) (w : World) : Tr B e0 w w := fun _ _ _ _ _ _ h => h
theorem Tr.trans {B e0 : Nat} {w w1 w2 : World} (h : Tr B e0 w w1) (k : Tr B e0 w1 w2) : Tr B e0 w w2 := fun e s v n xs he ho => k e s v n xs he (h e s v n xs he ho)
theorem Tr.of_below {B e0 : Nat} {w w' : World} (h : Below w.heap.size w w') : Tr B e0 w w' := fun _ _ _ _ _ _ ho => own_later ho h
theorem Tr.set {B e0 : Nat} (w : World) {a : Addr} (u : Value) (ha : a.block < B) : Tr B e0 w (w.setCell a u) := fun _ _ _ _ _ _ ho => ownsRow_setCell_below ho ha u
theorem Tr.grown {B e0 s0 n0 : Nat} {w w' : World} {u : Value} {xs0 : List Value} (hu : w.ownsRow B e0 s0 u n0 xs0) (hg : w.grownBy w' u.ownBlock) : Tr B e0 w w' := by
  intro e s v n xs he ho
  refine ho.kept hg ?_
  rcases ho.2 with ⟨hv, _⟩ | ⟨g, cap, cur, hv, _, hh, _⟩
  · exact .inl (by rw [hv]; rfl)
  · rcases hu.2 with ⟨hv0, _⟩ | ⟨g0, cap0, cur0, hv0, _, hh0, _⟩
    · exact .inr (by rw [hv, hv0]; simp [Value.ownBlock])
    · refine .inr ?_
      rw [hv, hv0]
      intro h
      have e1 : g = g0 := by simpa [Value.ownBlock] using h
      rw [e1, hh0] at hh
      simp only [Option.some.injEq, Obj.cells.injEq] at hh
      exact he hh.2.1.symm
/-- the index's own cells -/
abbrev xcells (hd rm gl pc : Value) (dn st md : Int) (t1 : Value) (b1 : Bool) (t2 : Value) (b2 : Bool) (t3 : Value) (b3 : Bool) (wr : Int) : List Value :=
  [.int .i64 0, .int .i64 0, .int .u8 0, .int .u8 0, .int .u8 0, .int .u8 0, .int .i64 0, hd, .slice none 0 0, rm, gl, pc, .slice none 0 0, .int .u32 dn, .int .i32 st, .int .u32 0, .int .i64 md, t1, .bool b1, t2, .bool b2, t3, .bool b3, .int .i64 wr]
/-- a new index of a scene -/
def NewPost (S : Sc) (w : World) (en : Ending) (w' : World) : Prop := ∃ (X : Nat) (hd rm gl pc : Value), en = .returned (.pointer (some ⟨X, 0, none⟩)) ∧ w.heap.size ≤ X ∧ Below w.heap.size w w' ∧
  BxAt w' X (xcells hd rm gl pc 0 0 0 (.slice none 0 0) false (.slice none 0 0) false (.slice none 0 0) false 0) ∧ (∃ a cap, hd = .slice a S.nh cap) ∧ Kept (X + 1) (DataV S rm gl pc) w'
/-- the glyphs' rows, k of them made -/
structure GMade (B : Nat) (G : Nat → Gl) (w : World) (v : Value) (k : Nat) (gv : Nat → Value) : Prop where
  own : w.ownsRow B 66 3 v k (flat 3 (glF G gv) k)
  row : ∀ j, j < k → w.ownsRow B 99 7 (gv j) (G j).n (flat 7 (stF (G j).F) (G j).n)
structure PMade (B : Nat) (P : Nat → Pi) (w : World) (v : Value) (k : Nat) (pv : Nat → Value) : Prop where
  own : w.ownsRow B 101 4 v k (flat 4 (piF P pv) k)
  row : ∀ j, j < k → w.ownsRow B 23 4 (pv j) (P j).n (flat 4 (pxF (P j).px) (P j).n)
theorem flat_succ (s : Nat) (f : Nat → Nat → Value) (k : Nat) : flat s f (k + 1) = flat s f k ++ (List.range s).map (f k) := rfl
theorem flat_congr {s n : Nat} {f f' : Nat → Nat → Value} (h : ∀ j t, j < n → f' j t = f j t) : flat s f' n = flat s f n := by
  induction n with
  | zero => rfl
  | succ n ih =>
    unfold flat
    rw [ih (fun j t hj => h j t (by omega)), show f' n = f n from funext fun t => h n t (by omega)]
theorem GMade.kept {B : Nat} {G : Nat → Gl} {w : World} {v : Value} {k : Nat} {gv : Nat → Value} (h : GMade B G w v k gv) : Kept B (fun w => GlyV w v k G) w :=
  fun w2 a => ⟨gv, Row.kept h.own w2 a, fun j hj => Row.kept (h.row j hj) w2 a⟩
theorem PMade.tr {B : Nat} {P : Nat → Pi} {w w' : World} {v : Value} {k : Nat} {pv : Nat → Value} (h : PMade B P w v k pv) {e0 : Nat} (h1 : 101 ≠ e0) (h2 : 23 ≠ e0) (t : Tr B e0 w w') : PMade B P w' v k pv :=
  ⟨t _ _ _ _ _ h1 h.own, fun j hj => t _ _ _ _ _ h2 (h.row j hj)⟩
theorem GMade.later {B : Nat} {G : Nat → Gl} {w w' : World} {v : Value} {k : Nat} {gv : Nat → Value} (h : GMade B G w v k gv) (hb : Below w.heap.size w w') : GMade B G w' v k gv :=
  ⟨own_later h.own hb, fun j hj => own_later (h.row j hj) hb⟩
theorem PMade.later {B : Nat} {P : Nat → Pi} {w w' : World} {v : Value} {k : Nat} {pv : Nat → Value} (h : PMade B P w v k pv) (hb : Below w.heap.size w w') : PMade B P w' v k pv :=
  ⟨own_later h.own hb, fun j hj => own_later (h.row j hj) hb⟩
theorem PMade.kept {B : Nat} {P : Nat → Pi} {w : World} {v : Value} {k : Nat} {pv : Nat → Value} (h : PMade B P w v k pv) : Kept B (fun w => PicV w v k P) w :=
  fun w2 a => ⟨pv, Row.kept h.own w2 a, fun j hj => Row.kept (h.row j hj) w2 a⟩
theorem GMade.next {B : Nat} {G : Nat → Gl} {w w' : World} {v v' cv : Value} {k : Nat} {gv : Nat → Value} (h : GMade B G w v k gv) (hr : w.ownsRow B 99 7 cv (G k).n (flat 7 (stF (G k).F) (G k).n))
    (t : Tr B 66 w w') (ho : w'.ownsRow B 66 3 v' (k + 1) (flat 3 (glF G gv) k ++ [.int .i64 (G k).code, .int .i64 (G k).adv, cv])) : GMade B G w' v' (k + 1) (fun j => if j = k then cv else gv j) := by
  constructor
  · have e : flat 3 (glF G (fun j => if j = k then cv else gv j)) (k + 1) = flat 3 (glF G gv) k ++ [.int .i64 (G k).code, .int .i64 (G k).adv, cv] := by
      rw [flat_succ, flat_congr (f := glF G gv) (fun j t hj => by unfold glF; simp only [if_neg (show ¬ j = k by omega)])]
      congr 1
      simp [List.range_succ, glF]
    rw [e]
    exact ho
  · intro j hj
    by_cases e : j = k
    · subst e
      rw [if_pos rfl]
      exact t _ _ _ _ _ (by decide) hr
    · rw [if_neg e]
      exact t _ _ _ _ _ (by decide) (h.row j (by omega))
theorem PMade.next {B : Nat} {P : Nat → Pi} {w w' : World} {v v' cv : Value} {k : Nat} {pv : Nat → Value} (h : PMade B P w v k pv) (hr : w.ownsRow B 23 4 cv (P k).n (flat 4 (pxF (P k).px) (P k).n))
    (t : Tr B 101 w w') (ho : w'.ownsRow B 101 4 v' (k + 1) (flat 4 (piF P pv) k ++ [.int .i64 (P k).id, .int .i64 (P k).pw, .int .i64 (P k).ph, cv])) : PMade B P w' v' (k + 1) (fun j => if j = k then cv else pv j) := by
  constructor
  · have e : flat 4 (piF P (fun j => if j = k then cv else pv j)) (k + 1) = flat 4 (piF P pv) k ++ [.int .i64 (P k).id, .int .i64 (P k).pw, .int .i64 (P k).ph, cv] := by
      rw [flat_succ, flat_congr (f := piF P pv) (fun j t hj => by unfold piF; simp only [if_neg (show ¬ j = k by omega)])]
      congr 1
      simp [List.range_succ, piF]
    rw [e]
    exact ho
  · intro j hj
    by_cases e : j = k
    · subst e
      rw [if_pos rfl]
      exact t _ _ _ _ _ (by decide) hr
    · rw [if_neg e]
      exact t _ _ _ _ _ (by decide) (h.row j (by omega))
theorem GMade.tr {B : Nat} {G : Nat → Gl} {w w' : World} {v : Value} {k : Nat} {gv : Nat → Value} (h : GMade B G w v k gv) {e0 : Nat} (h1 : 66 ≠ e0) (h2 : 99 ≠ e0) (t : Tr B e0 w w') : GMade B G w' v k gv :=
  ⟨t _ _ _ _ _ h1 h.own, fun j hj => t _ _ _ _ _ h2 (h.row j hj)⟩
theorem own_slice {w : World} {B e s n : Nat} {v : Value} {xs : List Value} (h : w.ownsRow B e s v n xs) : ∃ p c, v = .slice p n c := by
  rcases h.2 with ⟨h1, h2⟩ | ⟨g, cap, cur, h1, _⟩
  · exact ⟨none, 0, by rw [h1, h2]⟩
  · exact ⟨_, _, h1⟩
theorem own_low {w : World} {B B' e s n : Nat} {v : Value} {xs : List Value} (h : w.ownsRow B e s v n xs) (hb : B' ≤ B) : w.ownsRow B' e s v n xs := by
  refine ⟨h.1, ?_⟩
  rcases h.2 with h | ⟨g, cap, cur, h1, h2, h3⟩
  · exact .inl h
  · exact .inr ⟨g, cap, cur, h1, Nat.le_trans hb h2, h3⟩
theorem BxAt.under {w w1 : World} {g B : Nat} {cs : List Value} (h : BxAt w g cs) (hb : Below B w w1) (hg : g < B) : BxAt w1 g cs := by
  have e : w1.heap[g]? = w.heap[g]? := hb.block g hg
  exact ⟨Nat.lt_of_lt_of_le h.1 hb.size, fun k => (World.frozen?_of_block (w := w) (a := ⟨g, k, none⟩) e).trans (h.2.1 k), fun k u hu => (World.cell?_of_block (w := w) (a := ⟨g, k, none⟩) e).trans (h.2.2 k u hu)⟩
theorem BxAt.far {w : World} {g g' i : Nat} {cs : List Value} (h : BxAt w g cs) (x : Value) (hne : g' ≠ g) : BxAt (w.setCell ⟨g', i, none⟩ x) g cs := by
  refine ⟨by simpa using h.1, fun k => by rw [World.frozen?_setCell]; exact h.2.1 k, fun k u hu => ?_⟩
  rw [World.cell?_setCell_other _ _ _ _ (by simp only [ne_eq, Addr.mk.injEq]; omega)]
  exact h.2.2 k u hu
/-- an index in the making: what came in at A, the index at A + 1 -/
structure NewI (A : Nat) (w0 w : World) (ac cs : List Value) : Prop where
  bel : Below A w0 w
  ab : BxAt w A ac
  xb : BxAt w (A + 1) cs
theorem NewI.size {A : Nat} {w0 w : World} {ac cs : List Value} (h : NewI A w0 w ac cs) : A + 1 + 1 ≤ w.heap.size := h.xb.1
theorem NewI.later {A : Nat} {w0 w w' : World} {ac cs : List Value} (h : NewI A w0 w ac cs) (hb : Below w.heap.size w w') : NewI A w0 w' ac cs :=
  ⟨h.bel.trans (hb.mono (by have := h.size; omega)), h.ab.later hb, h.xb.later hb⟩
theorem NewI.put {A : Nat} {w0 w : World} {ac cs : List Value} (h : NewI A w0 w ac cs) (i : Nat) (u : Value) (hi : i < cs.length) : NewI A w0 (w.setCell ⟨A + 1, i, none⟩ u) ac (cs.set i u) :=
  ⟨h.bel.setCell (p := ⟨A + 1, i, none⟩) (show A ≤ A + 1 by omega) u, h.ab.far u (by omega), h.xb.put i u hi⟩
theorem NewI.above {A : Nat} {w0 w : World} {ac cs : List Value} (h : NewI A w0 w ac cs) {g : Nat} (i : Nat) (u : Value) (hg : A + 1 < g) : NewI A w0 (w.setCell ⟨g, i, none⟩ u) ac cs :=
  ⟨h.bel.setCell (p := ⟨g, i, none⟩) (show A ≤ g by omega) u, h.ab.far u (by omega), h.xb.far u (by omega)⟩
theorem NewI.grown {A : Nat} {w0 w w' : World} {ac cs : List Value} {e s n : Nat} {u : Value} {xs : List Value} (h : NewI A w0 w ac cs) (ho : w.ownsRow (A + 1 + 1) e s u n xs) (hg : w.grownBy w' u.ownBlock) : NewI A w0 w' ac cs := by
  have hb : Below (A + 1 + 1) w w' := (Below.refl _ _).grown hg h.size (fun k hk => (ho.lt k hk).1)
  exact ⟨h.bel.trans (hb.mono (by omega)), h.ab.under hb (by omega), h.xb.under hb (by omega)⟩
end Go.Proofs.Ytkhdielfnphheaa
