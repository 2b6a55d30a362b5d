/- Contracts of package tally and of the reference's tally. -/
import Derived.Test.YtbmbibjidpgbnaaRows
import Derived.WalkKit
import Derived.WalkLawsBesides
import Derived.WalkSpells
import Derived.BigQuiet
import Derived.Deep.QuietTactic
import Derived.Lib.Hide
import Derived.Outline
namespace Go.Proofs.Ytbmbibjidpgbnaa
open Go.RowKit

/-- only block g has turned -/
structure Only (g : Nat) (w w' : World) : Prop where
  os : w'.os = w.os
  tape : w'.tape = w.tape
  output : w'.output = w.output
  size : w'.heap.size = w.heap.size
  block : ∀ k, k ≠ g → w'.heap[k]? = w.heap[k]?
theorem Only.refl (g : Nat) (w : World) : Only g w w := ⟨rfl, rfl, rfl, rfl, fun _ _ => rfl⟩
theorem Only.trans {g : Nat} {a b c : World} (h : Only g a b) (k : Only g b c) : Only g a c :=
  ⟨k.os.trans h.os, k.tape.trans h.tape, k.output.trans h.output, k.size.trans h.size, fun i hi => (k.block i hi).trans (h.block i hi)⟩
theorem Only.setCell {g : Nat} {a w : World} (h : Only g a w) (o : Nat) (u : Value) : Only g a (w.setCell ⟨g, o, none⟩ u) :=
  h.trans ⟨rfl, rfl, rfl, by simp [World.setCell], fun k hk => Below.heap_setCell _ _ _ _ hk⟩
theorem Only.below {g B : Nat} {w w' : World} (h : Only g w w') (hB : B ≤ g) : Below B w w' :=
  ⟨h.os, h.tape, h.output, by rw [h.size]; exact Nat.le_refl _, fun k hk => h.block k (by omega)⟩
theorem Only.cell {g b o : Nat} {w w' : World} (h : Only g w w') (hb : b ≠ g) : w'.cell? ⟨b, o, none⟩ = w.cell? ⟨b, o, none⟩ :=
  World.cell?_of_block (w := w) (h.block b hb)
theorem Only.frozen {g b o : Nat} {w w' : World} (h : Only g w w') (hb : b ≠ g) : w'.frozen? ⟨b, o, none⟩ = w.frozen? ⟨b, o, none⟩ :=
  World.frozen?_of_block (w := w) (h.block b hb)

/-- the seven counts and peaks in block g -/
def IsTally (w : World) (g : Nat) (N P : Nat → Int) : Prop := ∀ k, k < 7 →
  w.cell? ⟨g, k * 2, none⟩ = some (.int .i64 (N k)) ∧ w.cell? ⟨g, k * 2 + 1, none⟩ = some (.int .i64 (P k)) ∧ w.frozen? ⟨g, k * 2, none⟩ = false ∧ w.frozen? ⟨g, k * 2 + 1, none⟩ = false
def upd (N : Nat → Int) (k : Nat) (v : Int) : Nat → Int := fun j => if j = k then v else N j

theorem IsTally.only {g g' : Nat} {w w' : World} {N P : Nat → Int} (h : IsTally w g N P) (ho : Only g' w w') (hg : g ≠ g') : IsTally w' g N P := fun k hk => by
  obtain ⟨h1, h2, h3, h4⟩ := h k hk
  exact ⟨by rw [ho.cell hg]; exact h1, by rw [ho.cell hg]; exact h2, by rw [ho.frozen hg]; exact h3, by rw [ho.frozen hg]; exact h4⟩

theorem new_any (w : World) : Calls Try.prog 21 #[] w fun e w' => e = .returned (.pointer (some ⟨w.heap.size, 0, none⟩)) ∧
    w' = w.alloc (.cells #[.int .i64 0, .int .i64 0, .int .i64 0, .int .i64 0, .int .i64 0, .int .i64 0, .int .i64 0, .int .i64 0, .int .i64 0, .int .i64 0, .int .i64 0, .int .i64 0, .int .i64 0, .int .i64 0] 90) := by
  go_enter Try.func21, Try.ntmps21
  go_wp2
  go_ret
  exact ⟨rfl, rfl⟩

theorem at_some (g k : Nat) (w : World) (hk : k < 7) : Calls Try.prog 51 #[.pointer (some ⟨g, 0, none⟩), .int .i64 k] w fun e w' =>
    e = .returned (.pointer (some ⟨g, k * 2, none⟩)) ∧ w = w' := by
  go_enter Try.func51, Try.ntmps51
  go_wp2
  go_ret
  exact ⟨rfl, rfl⟩

theorem at_none (a : Option Addr) (k : Int) (w : World) (hk : k < 0 ∨ 7 ≤ k) : Calls Try.prog 51 #[.pointer a, .int .i64 k] w fun e w' =>
    e = .returned (.pointer none) ∧ w = w' := by
  cases a with
  | none =>
    go_enter Try.func51, Try.ntmps51
    go_wp2
    go_ret
    exact ⟨rfl, rfl⟩
  | some a =>
    rcases hk with hk | hk
    · go_enter Try.func51, Try.ntmps51
      go_wp2
      go_ret
      exact ⟨rfl, rfl⟩
    · have h0 : ¬ k < 0 := by omega
      go_enter Try.func51, Try.ntmps51
      go_wp2
      go_ret
      exact ⟨rfl, rfl⟩

theorem at_nil (k : Int) (w : World) : Calls Try.prog 51 #[.pointer none, .int .i64 k] w fun e w' =>
    e = .returned (.pointer none) ∧ w = w' := by
  go_enter Try.func51, Try.ntmps51
  go_wp2
  go_ret
  exact ⟨rfl, rfl⟩

theorem load64 (a : Addr) (x : Int) (w : World) (hc : w.cell? a = some (.int .i64 x)) : Calls Try.prog 54 #[.pointer (some a)] w fun e w' =>
    e = .returned (.int .i64 x) ∧ w = w' := by
  have hl := run_call_load (P := Try.prog) (f := 70) Try.func70 (by kernel_rfl) (by kernel_rfl) (by kernel_rfl) .i64 (by kernel_rfl) hc
  go_enter Try.func54, Try.ntmps54
  go_wp2
  go_ret
  exact ⟨rfl, rfl⟩

theorem add64 (a : Addr) (x n : Int) (w : World) (hc : w.cell? a = some (.int .i64 x)) (hz : w.frozen? a = false) : Calls Try.prog 52 #[.pointer (some a), .int .i64 n] w fun e w' =>
    e = .returned (.int .i64 (wrap64 (x + n))) ∧ w' = w.setCell a (.int .i64 (wrap64 (x + n))) := by
  have hl := run_call_add (P := Try.prog) (f := 69) Try.func69 (by kernel_rfl) (by kernel_rfl) (by kernel_rfl) .i64 (by kernel_rfl) (x := x) (y := n) (s := wrap64 (x + n)) hc hz (by simp [go_sem, wrap64, IntKind.wrap_i64])
  go_enter Try.func52, Try.ntmps52
  go_wp2
  go_ret
  exact ⟨rfl, rfl⟩

theorem cas64_hit (a : Addr) (x n : Int) (w : World) (hc : w.cell? a = some (.int .i64 x)) (hz : w.frozen? a = false) : Calls Try.prog 57 #[.pointer (some a), .int .i64 x, .int .i64 n] w fun e w' =>
    e = .returned (.bool true) ∧ w' = w.setCell a (.int .i64 n) := by
  have hl := run_call_cas_hit (P := Try.prog) (f := 73) Try.func73 (by kernel_rfl) (by kernel_rfl) (by kernel_rfl) .i64 (by kernel_rfl) (y := n) hc hz
  go_enter Try.func57, Try.ntmps57
  go_wp2
  go_ret
  exact ⟨rfl, rfl⟩

theorem cas64_miss (a : Addr) (x y n : Int) (w : World) (hc : w.cell? a = some (.int .i64 x)) (hz : w.frozen? a = false) (hn : x ≠ y) : Calls Try.prog 57 #[.pointer (some a), .int .i64 y, .int .i64 n] w fun e w' =>
    e = .returned (.bool false) ∧ w = w' := by
  have hl := run_call_cas_miss (P := Try.prog) (f := 73) Try.func73 (by kernel_rfl) (by kernel_rfl) (by kernel_rfl) .i64 (by kernel_rfl) (y := n) hc hz hn
  go_enter Try.func57, Try.ntmps57
  go_wp2
  go_ret
  exact ⟨rfl, rfl⟩

theorem run_call_swap {P : Program} {f : FuncId} {fn : Func} (hf : P.funcs[f]? = some fn) (hname : (fn.name == "runtime.NumGoroutine") = false) (hb : fn.body.isNone = true) (hn : Extern.findNext fn = none) (k : IntKind)
    (he : Extern.find fn = some (Extern.Atomic.swapT (.int k))) {a : Addr} {x y : Int} {w : World} (hc : w.cell? a = some (.int k x)) (hz : w.frozen? a = false) :
    (callFunc f #[.pointer (some a), .int k y]).run P w = .ok (.value (.int k x)) (w.setCell a (.int k y)) := by
  rw [run_callFunc_extern hf hname hb hn he]
  change (Sem.run P (do
    let a' ← asAddr (.pointer (some a))
    let old ← Extern.Atomic.read (.int k) a'
    store a' (.int k y) .atomic
    pure old) w).andThen _ = _
  simp [Extern.Atomic.read, asAddr, hc, hz, run_store P w a (.int k y) .atomic rfl, Result.andThen]

theorem swap64 (a : Addr) (x n : Int) (w : World) (hc : w.cell? a = some (.int .i64 x)) (hz : w.frozen? a = false) : Calls Try.prog 56 #[.pointer (some a), .int .i64 n] w fun e w' =>
    e = .returned (.int .i64 x) ∧ w' = w.setCell a (.int .i64 n) := by
  have hl := run_call_swap (P := Try.prog) (f := 72) Try.func72 (by kernel_rfl) (by kernel_rfl) (by kernel_rfl) .i64 (by kernel_rfl) (y := n) hc hz
  go_enter Try.func56, Try.ntmps56
  go_wp2
  go_ret
  exact ⟨rfl, rfl⟩

def raised (n p : Int) (g o : Nat) (w : World) : World := if n ≤ p then w else w.setCell ⟨g, o + 1, none⟩ (.int .i64 n)
/-- raise: the peak is raised to n -/
theorem raise_any (g o : Nat) (p n : Int) (w : World) (hc : w.cell? ⟨g, o + 1, none⟩ = some (.int .i64 p)) (hz : w.frozen? ⟨g, o + 1, none⟩ = false) :
    Calls Try.prog 53 #[.pointer (some ⟨g, o, none⟩), .int .i64 n] w fun e w' => e = .returned (.tuple #[]) ∧ w' = raised n p g o w := by
  by_cases hle : n ≤ p
  · have hr : raised n p g o w = w := if_pos hle
    rw [hr]
    clear hr
    go_enter Try.func53, Try.ntmps53
    go_wp2_with fail
    refine wp_loop_once ?_
    go_wp2_with (first | (go_at_call 54; refine (load64 _ p _ hc).mono ?_; rintro e w' ⟨rfl, rfl⟩) | (go_at_call 57; refine (cas64_hit _ p n _ hc hz).mono ?_; rintro e w' ⟨rfl, rfl⟩))
    refine bodyPost_ret (results_none rfl _ _ _) rfl ?_
    exact ⟨rfl, rfl⟩
  · have hr : raised n p g o w = w.setCell ⟨g, o + 1, none⟩ (.int .i64 n) := if_neg hle
    rw [hr]
    clear hr
    go_enter Try.func53, Try.ntmps53
    go_wp2_with fail
    refine wp_loop_once ?_
    go_wp2_with (first | (go_at_call 54; refine (load64 _ p _ hc).mono ?_; rintro e w' ⟨rfl, rfl⟩) | (go_at_call 57; refine (cas64_hit _ p n _ hc hz).mono ?_; rintro e w' ⟨rfl, rfl⟩))
    refine bodyPost_ret (results_none rfl _ _ _) rfl ?_
    exact ⟨rfl, rfl⟩

def getV (N : Nat → Int) (k : Int) : Int := if 0 ≤ k ∧ k < 7 then N k.toNat else 0
def addV (N : Nat → Int) (k n : Int) : Int := if 0 ≤ k ∧ k < 7 then wrap64 (N k.toNat + n) else 0
def addN (N : Nat → Int) (k n : Int) : Nat → Int := if 0 ≤ k ∧ k < 7 then upd N k.toNat (wrap64 (N k.toNat + n)) else N
def addP (N P : Nat → Int) (k n : Int) : Nat → Int := if 0 ≤ k ∧ k < 7 then (if wrap64 (N k.toNat + n) ≤ P k.toNat then P else upd P k.toNat (wrap64 (N k.toNat + n))) else P
def setN (N : Nat → Int) (k n : Int) : Nat → Int := if 0 ≤ k ∧ k < 7 then upd N k.toNat n else N
def tryV (N : Nat → Int) (k m : Int) : Bool := decide (0 ≤ k ∧ k < 7) && decide (N k.toNat = m)
def tryN (N : Nat → Int) (k m n : Int) : Nat → Int := if tryV N k m then upd N k.toNat n else N

theorem in_or_out (k : Int) : (∃ j : Nat, j < 7 ∧ k = j) ∨ ((k < 0 ∨ 7 ≤ k) ∧ ¬ (0 ≤ k ∧ k < 7)) := by
  by_cases h : 0 ≤ k ∧ k < 7
  · exact .inl ⟨k.toNat, by omega, by omega⟩
  · exact .inr ⟨by omega, h⟩

theorem IsTally.setNow {w : World} {g : Nat} {N P : Nat → Int} (h : IsTally w g N P) {k : Nat} (hk : k < 7) (v : Int) : IsTally (w.setCell ⟨g, k * 2, none⟩ (.int .i64 v)) g (upd N k v) P := fun j hj => by
  obtain ⟨h1, h2, h3, h4⟩ := h j hj
  refine ⟨?_, ?_, by rw [World.frozen?_setCell]; exact h3, by rw [World.frozen?_setCell]; exact h4⟩
  · by_cases e : j = k
    · subst e
      rw [World.cell?_setCell_same' _ _ _ (by rw [h1]; rfl)]; simp [upd]
    · rw [World.cell?_setCell_other _ _ _ _ (by intro e2; have := congrArg Addr.off e2; simp at this; omega), h1]; simp [upd, e]
  · rw [World.cell?_setCell_other _ _ _ _ (by intro e2; have := congrArg Addr.off e2; simp at this; omega), h2]
theorem IsTally.setPeak {w : World} {g : Nat} {N P : Nat → Int} (h : IsTally w g N P) {k : Nat} (hk : k < 7) (v : Int) : IsTally (w.setCell ⟨g, k * 2 + 1, none⟩ (.int .i64 v)) g N (upd P k v) := fun j hj => by
  obtain ⟨h1, h2, h3, h4⟩ := h j hj
  refine ⟨?_, ?_, by rw [World.frozen?_setCell]; exact h3, by rw [World.frozen?_setCell]; exact h4⟩
  · rw [World.cell?_setCell_other _ _ _ _ (by intro e2; have := congrArg Addr.off e2; simp at this; omega), h1]
  · by_cases e : j = k
    · subst e
      rw [World.cell?_setCell_same' _ _ _ (by rw [h2]; rfl)]; simp [upd]
    · rw [World.cell?_setCell_other _ _ _ _ (by intro e2; have := congrArg Addr.off e2; simp at this; omega), h2]; simp [upd, e]

theorem get_t (g : Nat) (N P : Nat → Int) (k : Int) (w : World) (h : IsTally w g N P) : Calls Try.prog 23 #[.pointer (some ⟨g, 0, none⟩), .int .i64 k] w fun e w' =>
    e = .returned (.int .i64 (getV N k)) ∧ w = w' := by
  rcases in_or_out k with ⟨j, hj, rfl⟩ | ⟨ho, hn⟩
  · obtain ⟨h1, h2, h3, h4⟩ := h j hj
    have hv : getV N (j : Int) = N j := by unfold getV; rw [if_pos (by omega)]; simp
    rw [hv]; clear hv h
    go_enter Try.func23, Try.ntmps23
    go_wp2_with (first | (go_at_call 51; refine (at_some g j _ hj).mono ?_; rintro e w' ⟨rfl, rfl⟩) | (go_at_call 54; refine (load64 _ _ _ h1).mono ?_; rintro e w' ⟨rfl, rfl⟩))
    go_ret
    exact ⟨rfl, rfl⟩
  · have hv : getV N k = 0 := if_neg hn
    rw [hv]; clear hv hn h
    go_enter Try.func23, Try.ntmps23
    go_wp2_with (first | (go_at_call 51; refine (at_none _ _ _ ho).mono ?_; rintro e w' ⟨rfl, rfl⟩))
    go_ret
    exact ⟨rfl, rfl⟩

theorem peak_t (g : Nat) (N P : Nat → Int) (k : Int) (w : World) (h : IsTally w g N P) : Calls Try.prog 37 #[.pointer (some ⟨g, 0, none⟩), .int .i64 k] w fun e w' =>
    e = .returned (.int .i64 (getV P k)) ∧ w = w' := by
  rcases in_or_out k with ⟨j, hj, rfl⟩ | ⟨ho, hn⟩
  · obtain ⟨h1, h2, h3, h4⟩ := h j hj
    have hv : getV P (j : Int) = P j := by unfold getV; rw [if_pos (by omega)]; simp
    rw [hv]; clear hv h
    go_enter Try.func37, Try.ntmps37
    go_wp2_with (first | (go_at_call 51; refine (at_some g j _ hj).mono ?_; rintro e w' ⟨rfl, rfl⟩) | (go_at_call 54; refine (load64 _ _ _ h2).mono ?_; rintro e w' ⟨rfl, rfl⟩))
    go_ret
    exact ⟨rfl, rfl⟩
  · have hv : getV P k = 0 := if_neg hn
    rw [hv]; clear hv hn h
    go_enter Try.func37, Try.ntmps37
    go_wp2_with (first | (go_at_call 51; refine (at_none _ _ _ ho).mono ?_; rintro e w' ⟨rfl, rfl⟩))
    go_ret
    exact ⟨rfl, rfl⟩

theorem add_t (g : Nat) (N P : Nat → Int) (k n : Int) (w : World) (h : IsTally w g N P) : Calls Try.prog 22 #[.pointer (some ⟨g, 0, none⟩), .int .i64 k, .int .i64 n] w fun e w' =>
    e = .returned (.int .i64 (addV N k n)) ∧ IsTally w' g (addN N k n) (addP N P k n) ∧ Only g w w' := by
  rcases in_or_out k with ⟨j, hj, rfl⟩ | ⟨ho, hn⟩
  · obtain ⟨h1, h2, h3, h4⟩ := h j hj
    have hv : addV N (j : Int) n = wrap64 (N j + n) := by unfold addV; rw [if_pos (by omega)]; simp
    have hN : addN N (j : Int) n = upd N j (wrap64 (N j + n)) := by unfold addN; rw [if_pos (by omega)]; simp
    have hP : addP N P (j : Int) n = if wrap64 (N j + n) ≤ P j then P else upd P j (wrap64 (N j + n)) := by unfold addP; rw [if_pos (by omega)]; simp
    have HE := Lib.hid (And.intro hN hP)
    rw [hv]; clear hv hN hP
    have hs := h.setNow hj (wrap64 (N j + n))
    obtain ⟨s1, s2, s3, s4⟩ := hs j hj
    have HS := Lib.hid hs
    clear h hs
    go_enter Try.func22, Try.ntmps22
    go_wp2_with (first | (go_at_call 51; refine (at_some g j _ hj).mono ?_; rintro e w' ⟨rfl, rfl⟩) | (go_at_call 52; refine (add64 _ _ _ _ h1 h3).mono ?_; rintro e w' ⟨rfl, rfl⟩) | (go_at_call 53; refine (raise_any g (j * 2) (P j) _ _ s2 s4).mono ?_; rintro e w' ⟨rfl, rfl⟩))
    go_ret
    obtain ⟨hN, hP⟩ := HE.out
    rw [hN, hP]
    refine ⟨rfl, ?_, ?_⟩
    · unfold raised
      split
      · exact HS.out
      · exact HS.out.setPeak hj _
    · unfold raised
      split
      · exact (Only.refl _ _).setCell _ _
      · exact ((Only.refl _ _).setCell _ _).setCell _ _
  · have hv : addV N k n = 0 := if_neg hn
    have hN : addN N k n = N := if_neg hn
    have hP : addP N P k n = P := if_neg hn
    rw [hv, hN, hP]; clear hv hN hP hn
    have H := Lib.hid h
    clear h
    go_enter Try.func22, Try.ntmps22
    go_wp2_with (first | (go_at_call 51; refine (at_none _ _ _ ho).mono ?_; rintro e w' ⟨rfl, rfl⟩))
    go_ret
    exact ⟨rfl, H.out, Only.refl _ _⟩

end Go.Proofs.Ytbmbibjidpgbnaa
