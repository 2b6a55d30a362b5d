/- Contracts of affine.backwards, its closure, and affine.Through. -/
import Derived.RangeFuncNested
import Derived.RangeFuncBound
import Derived.RangeFuncCalls
import Derived.RangeFuncLeaves
import Derived.Shelf.Abstract
import Derived.Shelf.RegionOpen
import Derived.OwnWalkIn
import Derived.TacticsInMore
import Derived.LoopNIn
import Derived.LoopIn
import Derived.Test.YtbmbibjidpgbnaaAff2
import Derived.Test.YtbmbibjidpgbnaaSl
namespace Go.Proofs.Ytbmbibjidpgbnaa
open Go.RowKit Go.Shelf
attribute [local go_sem] Oper.semAt_some

/-- a map of the plane -/
structure Mp where
  a : Int
  b : Int
  c : Int
  d : Int
  e : Int
  f : Int
abbrev Mp.v (m : Mp) : Value := .agg #[.int .i64 m.a, .int .i64 m.b, .int .i64 m.c, .int .i64 m.d, .int .i64 m.e, .int .i64 m.f]
def MpAt (W : World) (g o : Nat) (m : Mp) : Prop :=
  W.cell? ⟨g, o, none⟩ = some (.int .i64 m.a) ∧ W.cell? ⟨g, o + 1, none⟩ = some (.int .i64 m.b) ∧ W.cell? ⟨g, o + 2, none⟩ = some (.int .i64 m.c) ∧
  W.cell? ⟨g, o + 3, none⟩ = some (.int .i64 m.d) ∧ W.cell? ⟨g, o + 4, none⟩ = some (.int .i64 m.e) ∧ W.cell? ⟨g, o + 5, none⟩ = some (.int .i64 m.f)
theorem MpAt.below {n₀ : Nat} {A B : World} (h : Below n₀ A B) {g o : Nat} (hg : g < n₀) {m : Mp} (hm : MpAt A g o m) : MpAt B g o m := by
  obtain ⟨h0, h1, h2, h3, h4, h5⟩ := hm
  exact ⟨(h.cell (p := ⟨g, _, none⟩) hg).trans h0, (h.cell (p := ⟨g, _, none⟩) hg).trans h1, (h.cell (p := ⟨g, _, none⟩) hg).trans h2, (h.cell (p := ⟨g, _, none⟩) hg).trans h3, (h.cell (p := ⟨g, _, none⟩) hg).trans h4, (h.cell (p := ⟨g, _, none⟩) hg).trans h5⟩

/-- the slice value sv holds the maps ms 0 .. ms (n - 1), in a block below n₀ -/
def Maps (n₀ : Nat) (W : World) (sv : Value) (n : Nat) (ms : Nat → Mp) : Prop :=
  ∃ (a : Option Addr) (cap : Nat), sv = .slice a n cap ∧ n ≤ 9223372036854775807 ∧ (0 < n → ∃ g off, a = some ⟨g, off, none⟩ ∧ g < n₀ ∧ ∀ j, j < n → MpAt W g (off + j * 6) (ms j))
theorem Maps.below {n₀ : Nat} {A B : World} (h : Below n₀ A B) {sv : Value} {n : Nat} {ms : Nat → Mp} (hm : Maps n₀ A sv n ms) : Maps n₀ B sv n ms := by
  obtain ⟨a, cap, e, hn, hc⟩ := hm
  refine ⟨a, cap, e, hn, fun h0 => ?_⟩
  obtain ⟨g, off, ha, hg, hcc⟩ := hc h0
  exact ⟨g, off, ha, hg, fun j hj => (hcc j hj).below h hg⟩

/-- what has come when k rounds are over -/
def upto {α : Type} (f : Nat → α) (k : Nat) : List α := (List.range k).map f
theorem upto_succ {α : Type} (f : Nat → α) (k : Nat) : upto f (k + 1) = upto f k ++ [f k] := by simp [upto, List.range_succ]
theorem upto_length {α : Type} (f : Nat → α) (k : Nat) : (upto f k).length = k := by simp [upto]

/-- below n₀, and in block Bs, all is as it was -/
def KpB (n₀ Bs : Nat) (A B : World) : Prop := Below n₀ A B ∧ (Bs < A.heap.size → B.heap[Bs]? = A.heap[Bs]?)
theorem KpB.refl (n₀ Bs : Nat) (A : World) : KpB n₀ Bs A A := ⟨Below.refl _ _, fun _ => rfl⟩
theorem KpB.trans {n₀ Bs : Nat} {A B C : World} (h : KpB n₀ Bs A B) (k : KpB n₀ Bs B C) : KpB n₀ Bs A C :=
  ⟨h.1.trans k.1, fun hs => (k.2 (Nat.lt_of_lt_of_le hs h.1.size)).trans (h.2 hs)⟩
theorem KpB.cell {n₀ Bs o : Nat} {A B : World} {v : Value} (h : KpB n₀ Bs A B) (hc : A.cell? ⟨Bs, o, none⟩ = some v) : B.cell? ⟨Bs, o, none⟩ = some v :=
  (World.cell?_of_block (w := A) (h.2 (World.block_lt_of_cell? _ _ hc))).trans hc
theorem KpB.of_below {n₀ Bs : Nat} {A B : World} (h : Below A.heap.size A B) (hn : n₀ ≤ A.heap.size) : KpB n₀ Bs A B := ⟨h.mono hn, fun hs => h.block Bs hs⟩
theorem KpB.setCell {n₀ Bs g : Nat} (A : World) (hg : n₀ ≤ g) (hne : Bs ≠ g) (o : Nat) (v : Value) : KpB n₀ Bs A (A.setCell ⟨g, o, none⟩ v) :=
  ⟨(Below.refl _ _).setCell (p := ⟨g, o, none⟩) hg _, fun _ => Below.heap_setCell _ _ _ _ hne⟩

/-- the maps from the last one on -/
def rev (n : Nat) (ms : Nat → Mp) (j : Nat) : Mp := ms (n - 1 - j)
def BRel (J : List Mp → World → Prop) (n₀ Bs : Nat) (W : World) (n : Nat) (ms : Nat → Mp) (v : Value) (wr : World) : Prop :=
  (v = .int .i64 (-1) ∧ J (upto (rev n ms) n) wr ∧ KpB n₀ Bs W wr) ∨ (∃ p : Nat, p < n ∧ v = .int .i64 p ∧ J (upto (rev n ms) (n - 1 - p)) wr ∧ KpB n₀ Bs W wr)
theorem BRel.start {J : List Mp → World → Prop} {n₀ Bs : Nat} {W : World} {n : Nat} {ms : Nat → Mp} (h : J [] W) : BRel J n₀ Bs W n ms (.int .i64 ((n : Int) - 1)) W := by
  cases n with
  | zero => exact .inl ⟨rfl, h, KpB.refl _ _ _⟩
  | succ n => exact .inr ⟨n, by omega, by congr 1; omega, by simpa [upto] using h, KpB.refl _ _ _⟩
theorem BRel.next {J : List Mp → World → Prop} {n₀ Bs : Nat} {W wr W3 : World} {n p : Nat} {ms : Nat → Mp} (hp : p < n) (h : J (upto (rev n ms) (n - 1 - p) ++ [ms p]) W3) (hb : KpB n₀ Bs W wr) (hb3 : KpB n₀ Bs wr W3) :
    BRel J n₀ Bs W n ms (.int .i64 ((p : Int) - 1)) W3 := by
  have e : upto (rev n ms) (n - 1 - p) ++ [ms p] = upto (rev n ms) (n - 1 - p + 1) := by
    rw [upto_succ]; congr 2; unfold rev; congr 1; omega
  rw [e] at h
  cases p with
  | zero => exact .inl ⟨rfl, by rw [show n = n - 1 - 0 + 1 by omega]; simpa [show n - 1 + 1 = n by omega] using h, hb.trans hb3⟩
  | succ p => exact .inr ⟨p, by omega, by congr 1; omega, by rw [show n - 1 - p = n - 1 - (p + 1) + 1 by omega]; exact h, hb.trans hb3⟩

set_option maxRecDepth 100000 in
set_option maxHeartbeats 2000000 in
theorem back1_in (F : Fence) (n : Nat) (h71 : F.fn 71) (hro : F.round = none) (hn : 1 ≤ n) (l Bs n₀ : Nat) (a : Option Addr) (len cap : Nat) (ms : Nat → Mp) (J Jx : List Mp → World → Prop)
    (hY : ∀ pre x W, J pre W → pre.length < len → YieldAt F (n - 1) Try.prog l #[Mp.v x] W fun e W' =>
      (e = .returned (.bool true) ∧ J (pre ++ [x]) W' ∧ KpB n₀ Bs W W') ∨ (e = .returned (.bool false) ∧ Jx (pre ++ [x]) W'))
    (W : World) (hBs : W.cell? ⟨Bs, 0, none⟩ = some (.slice a len cap)) (hM : Maps n₀ W (.slice a len cap) len ms) (h0 : J [] W) :
    CallsIn F n Try.prog 71 #[.func (.yield l) #[] #[], .pointer (some ⟨Bs, 0, none⟩)] W fun e W' => (∃ v, e = .returned v) ∧
      ((∃ ys, ys = upto (rev len ms) len ∧ J ys W') ∨ (∃ pre, (∃ k, k ≤ len ∧ pre = upto (rev len ms) k) ∧ Jx pre W')) := by
  have hl : len ≤ 9223372036854775807 := by obtain ⟨_, _, e, h, _⟩ := hM; exact h
  have M := Lib.hid hM
  have S := Lib.hid (BRel.start (J := J) (n₀ := n₀) (Bs := Bs) (n := len) (ms := ms) h0)
  clear hM h0
  refine callsIn_of_wp Try.func71 rfl h71 ?_ hro
  simp only [Try.ntmps71, List.size_toArray, List.length_cons, List.length_nil, Nat.reduceAdd, Nat.reduceSub, Array.replicate_succ, Array.replicate_zero, List.push_toArray, List.append_toArray, List.nil_append, List.cons_append]
  gi_wp2
  gi_loopw [3] (fun i wr => BRel J n₀ Bs W len ms i wr) (fun i _ => (intOf i + 1).toNat)
  case atStart => exact S.out
  case round =>
    rcases hrel with ⟨rfl, hJ, hb⟩ | ⟨p, hp, rfl, hJ, hb⟩
    · have E := Lib.hid hJ
      clear hJ
      gi_wp2
      go_end0
      exact ⟨⟨_, rfl⟩, .inl ⟨_, rfl, E.out⟩⟩
    · obtain ⟨a', cap', e, _, hc⟩ := M.out
      cases e
      obtain ⟨g, off, rfl, hg, hcc⟩ := hc (by omega)
      obtain ⟨c0, c1, c2, c3, c4, c5⟩ := (hcc p hp).below hb.1 hg
      have hBs' := hb.cell hBs
      clear hc hcc hBs
      obtain ⟨fn, tmps, assign, body, hy, hR⟩ := hY _ (ms p) wr hJ (by rw [upto_length]; omega)
      have HB := Lib.hid hb
      clear hb hJ
      gi_wp2
      refine hR.mono ?_
      clear hY hR
      rintro e W3 (⟨rfl, hJ3, hk3⟩ | ⟨rfl, hJx3⟩)
      · have N := Lib.hid (BRel.next hp hJ3 HB.out hk3)
        clear hJ3 hk3
        gi_wp2
        go_roundw
        case rel => exact N.out
        case measure => first | (simp [intOf]; done) | (simp [intOf]; omega)
      · have E := Lib.hid hJx3
        clear hJx3
        gi_wp2
        refine bodyPost_ret (results_none rfl _ _ _) rfl ?_
        exact ⟨⟨_, rfl⟩, .inr ⟨_, ⟨len - 1 - p + 1, by omega, by rw [upto_succ]; congr 2; unfold rev; congr 1; omega⟩, E.out⟩⟩

set_option maxHeartbeats 1000000 in
theorem back_in (F : Fence) (n : Nat) (h55 : F.fn 55) (hro : F.round = none) (a : Option Addr) (len cap : Nat) (w : World) :
    CallsIn F n Try.prog 55 #[.slice a len cap] w fun e w' => e = .returned (.func (.func 71) #[] #[.pointer (some ⟨w.heap.size, 0, none⟩)]) ∧ w' = w.alloc (.cells #[.slice a len cap] 45) := by
  refine callsIn_of_wp Try.func55 rfl h55 ?_ hro
  simp only [Try.ntmps55, List.size_toArray, List.length_cons, List.length_nil, Nat.reduceAdd, Nat.reduceSub, Array.replicate_succ, Array.replicate_zero, List.push_toArray, List.append_toArray, List.nil_append, List.cons_append]
  gi_wp2
  go_ret
  exact ⟨rfl, rfl⟩

theorem back_stops (F : Fence) (n : Nat) (h71 : F.fn 71) (hro : F.round = none) (hn : 1 ≤ n) (Bs n₀ : Nat) (a : Option Addr) (len cap : Nat) (ms : Nat → Mp) (w : World) (hBs : Bs < w.heap.size) (hn₀ : n₀ ≤ w.heap.size)
    (hc : w.cell? ⟨Bs, 0, none⟩ = some (.slice a len cap)) (hI : Maps n₀ w (.slice a len cap) len ms) :
    SeqStopsK F n Try.prog 71 #[.pointer (some ⟨Bs, 0, none⟩)] (fun x : Mp => #[x.v]) (KpB n₀ Bs) (fun ys => ys = upto (rev len ms) len) (fun pre => ∃ k, k ≤ len ∧ pre = upto (rev len ms) k) len w := fun l J Jx W hW _ _ hY h0 =>
  back1_in F n h71 hro hn l Bs n₀ a len cap ms J Jx hY W ((hW.cell (p := ⟨Bs, 0, none⟩) hBs).trans hc) (hI.below (hW.mono hn₀)) h0

/-! ### a box of several cells -/
def Blk (W : World) (B : Nat) (cs : Array Value) (t : TypeId) : Prop := W.heap[B]? = some (.cells cs t (0, 0))
theorem Blk.lt {W : World} {B : Nat} {cs : Array Value} {t : TypeId} (h : Blk W B cs t) : B < W.heap.size := (Array.getElem?_eq_some_iff.1 h).1
theorem Blk.cell {W : World} {B : Nat} {cs : Array Value} {t : TypeId} (h : Blk W B cs t) (i : Nat) : W.cell? ⟨B, i, none⟩ = cs[i]? := by simp [World.cell?, show W.heap[B]? = _ from h]
theorem Blk.frozen {W : World} {B : Nat} {cs : Array Value} {t : TypeId} (h : Blk W B cs t) (i : Nat) : W.frozen? ⟨B, i, none⟩ = false := by simp [World.frozen?, show W.heap[B]? = _ from h]
theorem Blk.new (W : World) (cs : Array Value) (t : TypeId) : Blk (W.alloc (.cells cs t)) W.heap.size cs t := World.alloc_heap_new W _
theorem Blk.below {N : Nat} {W W' : World} {B : Nat} {cs : Array Value} {t : TypeId} (hb : Below N W W') (hB : B < N) (h : Blk W B cs t) : Blk W' B cs t := (hb.block B hB).trans h
theorem Blk.later {W W' : World} {B : Nat} {cs : Array Value} {t : TypeId} (hb : Below W.heap.size W W') (h : Blk W B cs t) : Blk W' B cs t := h.below hb h.lt
theorem Blk.alloc {W : World} {B : Nat} {cs : Array Value} {t : TypeId} (h : Blk W B cs t) (o : Obj) : Blk (W.alloc o) B cs t := h.later ((Below.refl _ _).alloc (Nat.le_refl _) _)
theorem Blk.other {W : World} {B : Nat} {cs : Array Value} {t : TypeId} (h : Blk W B cs t) {g : Nat} (o : Nat) (hg : B ≠ g) (v : Value) : Blk (W.setCell ⟨g, o, none⟩ v) B cs t := (Below.heap_setCell _ _ _ _ hg).trans h
theorem Blk.set {W : World} {B : Nat} {cs : Array Value} {t : TypeId} (h : Blk W B cs t) (o : Nat) (v : Value) : Blk (W.setCell ⟨B, o, none⟩ v) B (cs.setIfInBounds o v) t := by
  unfold Blk World.setCell at *
  rw [Array.getElem?_modify, if_pos rfl, h]
  rfl
theorem Blk.own {β : Type} (B : Nat) (t : TypeId) (f : β → Array Value) : Own (fun s W => Blk W B (f s) t) := fun s X Y row hs hg hrow =>
  (hg.block B hs.lt (fun e' => by obtain ⟨_, ho, hc⟩ := hrow B e'.symm; rw [show X.heap[B]? = _ from hs] at ho; cases ho; cases hc)).trans hs
theorem KeepsFrom.of_below {B : Nat} {W W' : World} (hb : Below W.heap.size W W') : KeepsFrom B W W' := ⟨hb.size, fun k _ _ hk _ => (hb.block k (Array.getElem?_eq_some_iff.1 hk).1).trans hk⟩

end Go.Proofs.Ytbmbibjidpgbnaa
