/- Contract of affine.Apply. -/
import Derived.Test.YthglgempbdaikaaAff
import Derived.Deep.RegionHeld3
namespace Go.Proofs.Ythglgempbdaikaa
open Go.RowKit

theorem bcell {W w1 : World} (hb : Below W.heap.size W w1) : (∀ b o, b < W.heap.size → w1.cell? ⟨b, o, none⟩ = W.cell? ⟨b, o, none⟩) ∧ (∀ b o, b < W.heap.size → w1.frozen? ⟨b, o, none⟩ = W.frozen? ⟨b, o, none⟩) :=
  ⟨fun b o h => hb.cell (p := ⟨b, o, none⟩) h, fun b o h => hb.frozen (p := ⟨b, o, none⟩) h⟩

theorem cell_alloc {W : World} {a : Addr} {v : Value} (o : Obj) (h : W.cell? a = some v) : (W.alloc o).cell? a = some v := by
  rw [World.cell?_alloc_some _ _ _ (by rw [h]; rfl)]; exact h
theorem frozen_alloc {W : World} {b k : Nat} (o : Obj) (hb : b < W.heap.size) (h : W.frozen? ⟨b, k, none⟩ = false) : (W.alloc o).frozen? ⟨b, k, none⟩ = false := by
  rw [((Below.refl _ W).alloc (Nat.le_refl _) o).frozen (p := ⟨b, k, none⟩) hb]; exact h
theorem frozen_later {W W1 : World} {b k : Nat} (hB : Below W.heap.size W W1) (hb : b < W.heap.size) (h : W.frozen? ⟨b, k, none⟩ = false) : W1.frozen? ⟨b, k, none⟩ = false := by
  rw [hB.frozen (p := ⟨b, k, none⟩) hb]; exact h

end Go.Proofs.Ythglgempbdaikaa
