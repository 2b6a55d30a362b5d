/- Plain laws of ways around lines. -/
import Derived.Test.YthglgempbdaikaaPa9
namespace Go.Proofs.Ythglgempbdaikaa
open Go.RowKit

abbrev Ln := List Pt × Bool
/-- the way from point k to the next one -/
def segK (l : List Pt) (k : Nat) : List (Pt × Pt) := if l.getD ((k + 1) % l.length) (0, 0) = l.getD k (0, 0) then [] else [(l.getD k (0, 0), l.getD ((k + 1) % l.length) (0, 0))]
def segTo (l : List Pt) : Nat → List (Pt × Pt)
  | 0 => []
  | k + 1 => segTo l k ++ segK l k
def segsTo (L : List Ln) : Nat → List (Pt × Pt)
  | 0 => []
  | i + 1 => segsTo L i ++ segTo (L.getD i ([], false)).1 (L.getD i ([], false)).1.length
def sumLen (L : List Ln) : Nat → Nat
  | 0 => 0
  | i + 1 => sumLen L i + (L.getD i ([], false)).1.length
theorem segTo_len (l : List Pt) (k : Nat) : (segTo l k).length ≤ k := by
  induction k with
  | zero => exact Nat.le_refl _
  | succ k ih =>
    have : (segK l k).length ≤ 1 := by unfold segK; split <;> simp
    unfold segTo
    rw [List.length_append]
    omega
theorem segsTo_len (L : List Ln) (i : Nat) : (segsTo L i).length ≤ sumLen L i := by
  induction i with
  | zero => exact Nat.le_refl _
  | succ i ih =>
    have := segTo_len (L.getD i ([], false)).1 (L.getD i ([], false)).1.length
    unfold segsTo sumLen
    rw [List.length_append]
    omega
theorem sumLen_mono (L : List Ln) {i n : Nat} (h : i ≤ n) : sumLen L i ≤ sumLen L n := by
  induction n with
  | zero => obtain rfl : i = 0 := by omega
            exact Nat.le_refl _
  | succ n ih =>
    by_cases e : i = n + 1
    · rw [e]; exact Nat.le_refl _
    · have := ih (by omega)
      show sumLen L i ≤ sumLen L n + (L.getD n ([], false)).1.length
      omega
theorem sumLen_at (L : List Ln) {i n : Nat} (h : i < n) : sumLen L i + (L.getD i ([], false)).1.length ≤ sumLen L n := sumLen_mono L (show i + 1 ≤ n by omega)
def rowS (l : List (Pt × Pt)) : List Value := l.flatMap fun s => [.int .i64 s.1.1, .int .i64 s.1.2, .int .i64 s.2.1, .int .i64 s.2.2]
theorem rowS_snoc (l : List (Pt × Pt)) (a b c d : Int) : rowS l ++ [.int .i64 a, .int .i64 b, .int .i64 c, .int .i64 d] = rowS (l ++ [((a, b), (c, d))]) := by simp [rowS]
theorem rowS_get (l : List (Pt × Pt)) (j : Nat) (h : j < l.length) : (rowS l)[j * 4]? = some (.int .i64 (l.getD j ((0, 0), (0, 0))).1.1) ∧ (rowS l)[j * 4 + 1]? = some (.int .i64 (l.getD j ((0, 0), (0, 0))).1.2) ∧ (rowS l)[j * 4 + 2]? = some (.int .i64 (l.getD j ((0, 0), (0, 0))).2.1) ∧ (rowS l)[j * 4 + 3]? = some (.int .i64 (l.getD j ((0, 0), (0, 0))).2.2) := by
  induction l generalizing j with
  | nil => simp at h
  | cons p l ih =>
    cases j with
    | zero => simp [rowS]
    | succ j =>
      have := ih j (by simpa using h)
      have e1 : (j + 1) * 4 = j * 4 + 1 + 1 + 1 + 1 := by omega
      have e2 : rowS (p :: l) = .int .i64 p.1.1 :: .int .i64 p.1.2 :: .int .i64 p.2.1 :: .int .i64 p.2.2 :: rowS l := by simp [rowS]
      rw [e1, e2]
      simpa using this
/-- a slice of ways -/
def Sgs (w : World) (v : Value) (S : List (Pt × Pt)) : Prop := ∃ (a : Option Addr) (cap : Nat), v = .slice a S.length cap ∧ (0 < S.length → ∃ g, a = some ⟨g, 0, none⟩ ∧ ∀ j u, (rowS S)[j]? = some u → w.cell? ⟨g, j, none⟩ = some u)
theorem Sgs.of_owns {w : World} {B : Nat} {v : Value} {S : List (Pt × Pt)} (h : w.ownsRow B 44 4 v S.length (rowS S)) : Sgs w v S := by
  rcases h.2 with ⟨hv, h0⟩ | ⟨g, cap, cur, hv, _⟩
  · exact ⟨none, 0, by rw [hv, h0], fun h => by omega⟩
  · refine ⟨some ⟨g, 0, none⟩, cap, hv, fun _ => ⟨g, rfl, fun j u hu => ?_⟩⟩
    have hc := h.cells (g := g) (by rw [hv]; rfl) j u hu
    have hadd : (⟨g, 0, none⟩ : Addr).add j = ⟨g, j, none⟩ := by unfold Addr.add; split <;> simp_all
    rwa [hadd] at hc
theorem Sgs.later {w w1 : World} {v : Value} {S : List (Pt × Pt)} (h : Sgs w v S) (hb : Below w.heap.size w w1) : Sgs w1 v S := by
  obtain ⟨a, cap, hv, hc⟩ := h
  refine ⟨a, cap, hv, fun h0 => ?_⟩
  obtain ⟨g, ha, hp⟩ := hc h0
  exact ⟨g, ha, fun j u hu => cell_later hb (hp j u hu)⟩
def SegsPost (S : List (Pt × Pt)) (w : World) (e : Ending) (w' : World) : Prop := Below w.heap.size w w' ∧ ∃ v, e = .returned v ∧ Sgs w' v S
theorem Try.info44 : (Try.prog.info? 44).map (fun i => (i.zero, i.size, i.bytes)) = some (some (.agg #[.int .i64 0, .int .i64 0, .int .i64 0, .int .i64 0]), 4, 32) := by kernel_rfl
theorem Try.underlying24 : Try.prog.underlying 24 = some (.slice 44) := by kernel_rfl
end Go.Proofs.Ythglgempbdaikaa
