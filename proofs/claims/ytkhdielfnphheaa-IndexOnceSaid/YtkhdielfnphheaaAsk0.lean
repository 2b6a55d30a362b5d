/- How an index stands; contracts of ask, Made, Wrong. -/
import Derived.Test.YtkhdielfnphheaaBld
namespace Go.Proofs.Ytkhdielfnphheaa
open Go.RowKit

/-- do names occur twice? -/
def twiceB (N : Nat → Int) (n : Nat) : Bool := !(allB (fun i => fstI N (N i) n == (i : Int)) n)
theorem TabV.twice {B : Nat} {w : World} {v : Value} {tw : Bool} {N : Nat → Int} {n : Nat} (h : TabV B w v tw N n) : tw = twiceB N n := by
  obtain ⟨T, h1, h2, _⟩ := h
  rw [h2]
  unfold twiceB
  cases e : allB (fun i => fstI N (N i) n == (i : Int)) n
  · refine decide_eq_true (h1.twice.2 ?_)
    refine Classical.byContradiction fun hn => ?_
    have : allB (fun i => fstI N (N i) n == (i : Int)) n = true := allB_iff.2 fun k hk => by
      refine beq_iff_eq.2 (Classical.byContradiction fun h => hn ⟨k, hk, h⟩)
    rw [e] at this
    cases this
  · refine decide_eq_false fun h => ?_
    obtain ⟨i, hi, hne⟩ := h1.twice.1 h
    exact hne (beq_iff_eq.1 (allB_iff.1 e i hi))
/-- what is wrong with a scene's definitions first -/
def wrongS (S : Sc) : Int := wrongB S (twiceB (nmR S) S.nr || (twiceB (nmG S) S.ng || twiceB (nmP S) S.np))
def TabsV (S : Sc) (X : Nat) (t1 t2 t3 : Value) (b1 b2 b3 : Bool) (w : World) : Prop := TabV (X + 1) w t1 b1 (nmR S) S.nr ∧ TabV (X + 1) w t2 b2 (nmP S) S.np ∧ TabV (X + 1) w t3 b3 (nmG S) S.ng
/-- what holds in each world with the same blocks of D -/
def KD (D : Nat → Prop) (P : World → Prop) (w : World) : Prop := ∀ w2, w.heap.size ≤ w2.heap.size → (∀ g, D g → w2.heap[g]? = w.heap[g]?) → P w2
theorem KD.now {D : Nat → Prop} {P : World → Prop} {w : World} (h : KD D P w) : P w := h w (Nat.le_refl _) (fun _ _ => rfl)
theorem KD.on {D : Nat → Prop} {P : World → Prop} {w w1 : World} (h : KD D P w) (hs : w.heap.size ≤ w1.heap.size) (he : ∀ g, D g → w1.heap[g]? = w.heap[g]?) : KD D P w1 :=
  fun w2 h1 h2 => h w2 (Nat.le_trans hs h1) (fun g hg => (h2 g hg).trans (he g hg))
theorem KD.wide {D D' : Nat → Prop} {P : World → Prop} {w : World} (h : KD D P w) (k : ∀ g, D g → D' g) : KD D' P w := fun w2 h1 h2 => h w2 h1 (fun g hg => h2 g (k g hg))
theorem KD.of_kept {B : Nat} {P : World → Prop} {w : World} (h : Kept B P w) : KD (fun g => B ≤ g ∧ g < w.heap.size) P w := fun w2 h1 h2 => h w2 ⟨h1, fun g a b => h2 g ⟨a, b⟩⟩
theorem KD.kept {B : Nat} {D : Nat → Prop} {P : World → Prop} {w : World} (h : KD D P w) (k : ∀ g, D g → B ≤ g ∧ g < w.heap.size) : Kept B P w := fun w2 a => h w2 a.size (fun g hg => a.block g (k g hg).1 (k g hg).2)
/-- an index that was not asked; its data in the blocks D -/
def IdxFD (S : Sc) (X : Nat) (D : Nat → Prop) (w : World) : Prop := (∀ g, D g → X < g ∧ g < w.heap.size) ∧ ∃ hd rm gl pc, BxAt w X (xcells hd rm gl pc 0 0 0 (.slice none 0 0) false (.slice none 0 0) false (.slice none 0 0) false 0) ∧ (∃ a c, hd = .slice a S.nh c) ∧ KD D (DataV S rm gl pc) w
/-- an index that was asked -/
def IdxAD (S : Sc) (X : Nat) (D : Nat → Prop) (w : World) : Prop := (∀ g, D g → X < g ∧ g < w.heap.size) ∧ ∃ hd rm gl pc t1 b1 t2 b2 t3 b3, BxAt w X (xcells hd rm gl pc 1 0 1 t1 b1 t2 b2 t3 b3 (wrongS S)) ∧ (∃ a c, hd = .slice a S.nh c) ∧ KD D (DataV S rm gl pc) w ∧ KD D (TabsV S X t1 t2 t3 b1 b2 b3) w
def IdxF (S : Sc) (X : Nat) (w : World) : Prop := ∃ D, IdxFD S X D w
def IdxA (S : Sc) (X : Nat) (w : World) : Prop := ∃ D, IdxAD S X D w
theorem EntB.abv {w w1 : World} {A n B : Nat} {E : Nat → Ent} (h : EntB w A n E) (hA : B ≤ A) (k : Abv B w w1) : EntB w1 A n E :=
  ⟨Nat.lt_of_lt_of_le h.1 k.size, fun j => (World.frozen?_of_block (w := w) (a := ⟨A, j, none⟩) (k.block A hA h.1)).trans (h.2.1 j), fun j hj => ⟨k.cell hA (h.2.2 j hj).1, k.cell hA (h.2.2 j hj).2⟩⟩
theorem TabV.kept {B : Nat} {w : World} {v : Value} {tw : Bool} {N : Nat → Int} {n : Nat} (h : TabV B w v tw N n) : Kept B (fun w => TabV B w v tw N n) w := by
  intro w2 k
  obtain ⟨T, h1, h2, p, cap, h3, h4⟩ := h
  refine ⟨T, h1, h2, p, cap, h3, fun h0 => ?_⟩
  obtain ⟨A, a1, a2, a3⟩ := h4 h0
  exact ⟨A, a1, a2, a3.abv a2 k⟩
theorem BxAt.abv {w w1 : World} {g : Nat} {cs : List Value} (h : BxAt w g cs) (e : w1.heap[g]? = w.heap[g]?) (hs : w.heap.size ≤ w1.heap.size) : BxAt w1 g cs :=
  ⟨Nat.lt_of_lt_of_le h.1 hs, fun k => (World.frozen?_of_block (w := w) (a := ⟨g, k, none⟩) e).trans (h.2.1 k), fun k u hu => (World.cell?_of_block (w := w) (a := ⟨g, k, none⟩) e).trans (h.2.2 k u hu)⟩
theorem IdxAD.on {S : Sc} {X : Nat} {D : Nat → Prop} {w w1 : World} (h : IdxAD S X D w) (hs : w.heap.size ≤ w1.heap.size) (he : ∀ g, D g ∨ g = X → w1.heap[g]? = w.heap[g]?) : IdxAD S X D w1 := by
  obtain ⟨h0, hd, rm, gl, pc, t1, b1, t2, b2, t3, b3, h1, h2, h3, h4⟩ := h
  exact ⟨fun g hg => ⟨(h0 g hg).1, Nat.lt_of_lt_of_le (h0 g hg).2 hs⟩, hd, rm, gl, pc, t1, b1, t2, b2, t3, b3, h1.abv (he X (.inr rfl)) hs, h2, h3.on hs (fun g hg => he g (.inl hg)), h4.on hs (fun g hg => he g (.inl hg))⟩
theorem IdxFD.on {S : Sc} {X : Nat} {D : Nat → Prop} {w w1 : World} (h : IdxFD S X D w) (hs : w.heap.size ≤ w1.heap.size) (he : ∀ g, D g ∨ g = X → w1.heap[g]? = w.heap[g]?) : IdxFD S X D w1 := by
  obtain ⟨h0, hd, rm, gl, pc, h1, h2, h3⟩ := h
  exact ⟨fun g hg => ⟨(h0 g hg).1, Nat.lt_of_lt_of_le (h0 g hg).2 hs⟩, hd, rm, gl, pc, h1.abv (he X (.inr rfl)) hs, h2, h3.on hs (fun g hg => he g (.inl hg))⟩
theorem IdxAD.lt {S : Sc} {X : Nat} {D : Nat → Prop} {w : World} (h : IdxAD S X D w) : X < w.heap.size := by
  obtain ⟨h0, hd, rm, gl, pc, t1, b1, t2, b2, t3, b3, h1, _⟩ := h
  exact h1.1
theorem IdxFD.lt {S : Sc} {X : Nat} {D : Nat → Prop} {w : World} (h : IdxFD S X D w) : X < w.heap.size := by
  obtain ⟨h0, hd, rm, gl, pc, h1, _⟩ := h
  exact h1.1
theorem IdxAD.later {S : Sc} {X : Nat} {D : Nat → Prop} {w w1 : World} (h : IdxAD S X D w) (hb : Below w.heap.size w w1) : IdxAD S X D w1 :=
  h.on hb.size (fun g hg => hb.block g (by rcases hg with hg | rfl; exact (h.1 g hg).2; exact h.lt))
theorem IdxFD.later {S : Sc} {X : Nat} {D : Nat → Prop} {w w1 : World} (h : IdxFD S X D w) (hb : Below w.heap.size w w1) : IdxFD S X D w1 :=
  h.on hb.size (fun g hg => hb.block g (by rcases hg with hg | rfl; exact (h.1 g hg).2; exact h.lt))
theorem IdxAD.frm {S : Sc} {X A : Nat} {D : Nat → Prop} {w w1 : World} (h : IdxAD S X D w) (k : FrmA w w1 A) (hA : ¬ D A) (hX : A ≠ X) : IdxAD S X D w1 :=
  h.on k.size (fun g hg => by
    rcases hg with hg | rfl
    · exact k.block g (h.1 g hg).2 (fun e => hA (e ▸ hg))
    · exact k.block g h.lt (fun e => hX e.symm))
theorem IdxA.later {S : Sc} {X : Nat} {w w1 : World} (h : IdxA S X w) (hb : Below w.heap.size w w1) : IdxA S X w1 := by
  obtain ⟨D, h⟩ := h
  exact ⟨D, h.later hb⟩
theorem IdxF.later {S : Sc} {X : Nat} {w w1 : World} (h : IdxF S X w) (hb : Below w.heap.size w w1) : IdxF S X w1 := by
  obtain ⟨D, h⟩ := h
  exact ⟨D, h.later hb⟩
theorem IdxA.lt {S : Sc} {X : Nat} {w : World} (h : IdxA S X w) : X < w.heap.size := by
  obtain ⟨D, h⟩ := h
  exact h.lt
theorem IdxF.lt {S : Sc} {X : Nat} {w : World} (h : IdxF S X w) : X < w.heap.size := by
  obtain ⟨D, h⟩ := h
  exact h.lt
theorem idx_of_new {S : Sc} {w w' : World} {en : Ending} (h : NewPost S w en w') : ∃ X, en = .returned (.pointer (some ⟨X, 0, none⟩)) ∧ w.heap.size ≤ X ∧ Below w.heap.size w w' ∧ IdxF S X w' := by
  obtain ⟨X, hd, rm, gl, pc, h1, h2, h3, h4, h5, h6⟩ := h
  exact ⟨X, h1, h2, h3, _, fun g hg => ⟨by have := hg.1; omega, hg.2⟩, hd, rm, gl, pc, h4, h5, KD.of_kept h6⟩
/-- a frame at X, then one at a new block -/
theorem FrmA.next {w w1 w2 : World} {X A : Nat} (h : FrmA w w1 X) (k : FrmA w1 w2 A) (hA : w.heap.size ≤ A) : FrmA w w2 X :=
  ⟨k.os.trans h.os, k.tape.trans h.tape, k.output.trans h.output, Nat.le_trans h.size k.size, fun g h1 h2 => (k.block g (Nat.lt_of_lt_of_le h1 h.size) (by omega)).trans (h.block g h1 h2)⟩
theorem FrmA.row {w w1 : World} {A : Nat} (h : FrmA w w1 A) (cs : Array Value) : FrmA w (w1.setRow A cs) A :=
  ⟨h.os, h.tape, h.output, by simpa using h.size, fun g h1 h2 => (setRow_other w1 A g cs h2).trans (h.block g h1 h2)⟩
/-- the index answers, and has been asked -/
def IdxPost (S : Sc) (X : Nat) (v : Value) (w : World) (e : Ending) (w' : World) : Prop := e = .returned v ∧ FrmA w w' X ∧ IdxA S X w'
/-- likewise; its tables are new -/
def AskPost (S : Sc) (X : Nat) (D : Nat → Prop) (v : Value) (w : World) (e : Ending) (w' : World) : Prop := e = .returned v ∧ FrmA w w' X ∧ ∃ D', (∀ g, D' g → D g ∨ w.heap.size ≤ g) ∧ IdxAD S X D' w'
set_option maxRecDepth 100000 in
set_option maxHeartbeats 1600000 in
theorem ask_first (S : Sc) (X : Nat) (D : Nat → Prop) (w : World) (h : IdxFD S X D w) (ok : ScOk S) : Calls Try.prog 27 #[.pointer (some ⟨X, 0, none⟩)] w (AskPost S X D (.bool true) w) := by
  obtain ⟨h0, hd, rm, gl, pc, hX, hH, hK⟩ := h
  have hD := hK.kept (B := X + 1) (fun g hg => ⟨(h0 g hg).1, (h0 g hg).2⟩)
  have H0 := Lib.hid h0
  have HK := Lib.hid hK
  clear h0 hK
  have X1 : BxAt (w.setCell ⟨X, 14, none⟩ (.int .i32 1)) X (xcells hd rm gl pc 0 1 0 (.slice none 0 0) false (.slice none 0 0) false (.slice none 0 0) false 0) := hX.put 14 (.int .i32 1) (by simp)
  have D1 := hD.on (Abv.set w ⟨X, 14, none⟩ (.int .i32 1) (show X < X + 1 by omega))
  have C : Calls Try.prog 37 #[.pointer (some ⟨X, 0, none⟩)] (w.setCell ⟨X, 14, none⟩ (.int .i32 1)) fun e w' => e = .returned (.tuple #[]) ∧ BuildQ S X hd rm gl pc (w.setCell ⟨X, 14, none⟩ (.int .i32 1)) w' :=
    (build_any S X hd rm gl pc _ X1 hH D1 ok).mono fun e w' h => h
  have DO := Lib.hid (do_first X (BuildQ S X hd rm gl pc (w.setCell ⟨X, 14, none⟩ (.int .i32 1))) w (hX.2.2 13 _ rfl) (hX.2.2 14 _ rfl) (hX.2.1 14) C (fun w' hq => by
    obtain ⟨t1, b1, t2, b2, t3, b3, q1, _⟩ := hq
    exact ⟨q1.2.2 13 _ rfl, q1.2.2 14 _ rfl, q1.2.1 13, q1.2.1 14⟩))
  have HH := Lib.hid hH
  have XL := Lib.hid hX.1
  clear C X1 D1 hD hH hX ok
  go_enter Try.func27, Try.ntmps27
  go_wp2_with fail
  have hmf : ∀ (fn : Fn) (first cap : Array Value) (w : World), (Instr.makeFunc fn first cap).run Try.prog w = .ok (.func fn first cap) w := fun _ _ _ _ => rfl
  go_wp2_with fail
  refine DO.out.mono ?_
  rintro e w2 ⟨rfl, w1, hq, hw2⟩
  obtain ⟨t1, b1, t2, b2, t3, b3, q1, q2, q3, q4, q5⟩ := hq
  have hw : wrongB S (b1 || (b3 || b2)) = wrongS S := by rw [q2.twice, q3.twice, q4.twice]; rfl
  rw [hw] at q1
  have K1 : Kept w.heap.size (TabsV S X t1 t2 t3 b1 b2 b3) w1 := by
    have e : (w.setCell ⟨X, 14, none⟩ (.int .i32 1)).heap.size = w.heap.size := by simp
    rw [e] at q2 q3 q4
    have hl : X + 1 ≤ w.heap.size := XL.out
    exact ((q2.kept).imp (fun _ h => h.low hl)).and (((q3.kept).imp (fun _ h => h.low hl)).and ((q4.kept).imp (fun _ h => h.low hl)))
  have q1d : BxAt w1.drew X _ := q1.later (Below.refl _ _).drew
  have XF := (q1d.put 13 (.int .u32 1) (by simp)).put 14 (.int .i32 0) (by simp)
  have AB : Abv w.heap.size w1 w2 := by
    rw [hw2]
    exact ((Abv.of_below (Below.refl _ w1).drew).trans (Abv.set _ ⟨X, 13, none⟩ _ XL.out)).trans (Abv.set _ ⟨X, 14, none⟩ _ XL.out)
  have FF : FrmA w w2 X := by
    rw [hw2]
    exact ((((FrmA.refl w X).set (k := 14) (u := .int .i32 1)).trans q5).drew.set (k := 13) (u := .int .u32 1)).set (k := 14) (u := .int .i32 0)
  have IA : Hid (∃ D', (∀ g, D' g → D g ∨ w.heap.size ≤ g) ∧ IdxAD S X D' w2) := Lib.hid (by
    refine ⟨fun g => D g ∨ (w.heap.size ≤ g ∧ g < w2.heap.size), fun g hg => hg.elim .inl (fun h => .inr h.1), fun g hg => ?_, hd, rm, gl, pc, t1, b1, t2, b2, t3, b3, by rw [hw2]; exact XF, HH.out, ?_, ?_⟩
    · have hs := FF.size
      have hl := XL.out
      rcases hg with hg | hg
      · have := H0.out g hg; omega
      · omega
    · exact (HK.out.on FF.size (fun g hg => FF.block g (H0.out g hg).2 (by have := H0.out g hg; omega))).wide (fun g hg => .inl hg)
    · exact (KD.of_kept (K1.on AB)).wide (fun g hg => .inr hg))
  have FH := Lib.hid FF
  clear hw2 q1 q2 q3 q4 q5 hw K1 q1d XF AB FF
  go_wp2_with fail
  go_ret
  exact ⟨rfl, FH.out, IA.out⟩
set_option maxRecDepth 100000 in
theorem ask_again (S : Sc) (X : Nat) (D : Nat → Prop) (w : World) (h : IdxAD S X D w) : Calls Try.prog 27 #[.pointer (some ⟨X, 0, none⟩)] w (AskPost S X D (.bool true) w) := by
  have IA := Lib.hid h
  obtain ⟨_, hd, rm, gl, pc, t1, b1, t2, b2, t3, b3, hX, _⟩ := h
  have DO := Lib.hid (fun fv => do_done X fv w (hX.2.2 13 _ rfl))
  clear hX
  have hmf : ∀ (fn : Fn) (first cap : Array Value) (w : World), (Instr.makeFunc fn first cap).run Try.prog w = .ok (.func fn first cap) w := fun _ _ _ _ => rfl
  go_enter Try.func27, Try.ntmps27
  go_wp2_with fail
  refine (DO.out _).mono ?_
  rintro e w2 ⟨rfl, hb⟩
  have BB := Lib.hid hb
  clear hb
  go_wp2_with fail
  go_ret
  exact ⟨rfl, FrmA.of_below BB.out, D, fun g hg => .inl hg, IA.out.later BB.out⟩
theorem ask_none (w : World) : Calls Try.prog 27 #[.pointer none] w (RetPost (.bool false) w) := by
  go_enter Try.func27, Try.ntmps27
  go_wp2_with fail
  go_ret
  exact ⟨rfl, Below.refl _ _⟩
theorem ask_any (S : Sc) (X : Nat) (D : Nat → Prop) (w : World) (h : IdxFD S X D w ∨ IdxAD S X D w) (ok : ScOk S) : Calls Try.prog 27 #[.pointer (some ⟨X, 0, none⟩)] w (AskPost S X D (.bool true) w) := by
  rcases h with h | h
  · exact ask_first S X D w h ok
  · exact ask_again S X D w h
set_option maxRecDepth 100000 in
theorem made_fresh (S : Sc) (X : Nat) (w : World) (h : IdxF S X w) : Calls Try.prog 15 #[.pointer (some ⟨X, 0, none⟩)] w (RetPost (.int .i64 0) w) := by
  obtain ⟨_, _, hd, rm, gl, pc, hX, _⟩ := h
  have C := Lib.hid (iload_any ⟨X, 16, none⟩ 0 w (hX.2.2 16 _ rfl))
  clear hX
  go_enter Try.func15, Try.ntmps15
  go_wp2_with fail
  refine C.out.mono ?_
  rintro e w2 ⟨rfl, hb⟩
  have BB := Lib.hid hb
  clear hb
  go_wp2_with fail
  go_ret
  exact ⟨rfl, BB.out⟩
set_option maxRecDepth 100000 in
theorem made_asked (S : Sc) (X : Nat) (w : World) (h : IdxA S X w) : Calls Try.prog 15 #[.pointer (some ⟨X, 0, none⟩)] w (RetPost (.int .i64 1) w) := by
  obtain ⟨_, _, hd, rm, gl, pc, t1, b1, t2, b2, t3, b3, hX, _⟩ := h
  have C := Lib.hid (iload_any ⟨X, 16, none⟩ 1 w (hX.2.2 16 _ rfl))
  clear hX
  go_enter Try.func15, Try.ntmps15
  go_wp2_with fail
  refine C.out.mono ?_
  rintro e w2 ⟨rfl, hb⟩
  have BB := Lib.hid hb
  clear hb
  go_wp2_with fail
  go_ret
  exact ⟨rfl, BB.out⟩
theorem made_none (w : World) : Calls Try.prog 15 #[.pointer none] w (RetPost (.int .i64 0) w) := by
  go_enter Try.func15, Try.ntmps15
  go_wp2_with fail
  go_ret
  exact ⟨rfl, Below.refl _ _⟩
set_option maxRecDepth 100000 in
theorem wrong_any (S : Sc) (X : Nat) (w : World) (h : IdxF S X w ∨ IdxA S X w) (ok : ScOk S) : Calls Try.prog 13 #[.pointer (some ⟨X, 0, none⟩)] w (IdxPost S X (.int .i64 (wrongS S)) w) := by
  obtain ⟨D, h⟩ : ∃ D, IdxFD S X D w ∨ IdxAD S X D w := by
    rcases h with ⟨D, h⟩ | ⟨D, h⟩
    · exact ⟨D, .inl h⟩
    · exact ⟨D, .inr h⟩
  have C := Lib.hid (ask_any S X D w h ok)
  clear h ok
  go_enter Try.func13, Try.ntmps13
  go_wp2_with fail
  refine C.out.mono ?_
  rintro e w2 ⟨rfl, hf, D', -, ha⟩
  have FF := Lib.hid hf
  have IA := Lib.hid ha
  obtain ⟨-, hd, rm, gl, pc, t1, b1, t2, b2, t3, b3, hX, -⟩ := ha
  have x23 := hX.2.2 23 _ rfl
  clear hf hX
  go_wp2_with fail
  go_ret
  exact ⟨rfl, FF.out, D', IA.out⟩
theorem wrong_none (w : World) : Calls Try.prog 13 #[.pointer none] w (RetPost (.int .i64 1) w) := by
  have C := Lib.hid (ask_none w)
  go_enter Try.func13, Try.ntmps13
  go_wp2_with fail
  refine C.out.mono ?_
  rintro e w2 ⟨rfl, hb⟩
  have BB := Lib.hid hb
  clear hb
  go_wp2_with fail
  go_ret
  exact ⟨rfl, BB.out⟩
end Go.Proofs.Ytkhdielfnphheaa
