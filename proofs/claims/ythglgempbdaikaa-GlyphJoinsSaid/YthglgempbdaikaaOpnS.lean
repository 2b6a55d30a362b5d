/- How a slice reads whose elements are rows of ints. -/
import Derived.Deep.Slices
import Derived.Deep.Fields
import Derived.ChangeSame
import Derived.Test.YthglgempbdaikaaOpn
namespace Go.Proofs.Ythglgempbdaikaa
open Go.ChangeShapes Go.WideShapes Go.ChangeAt Go.RowKit Go.Deep
section
variable {H : Type} {enc : TypeId × Value → H} {P : Program} {w : World} {base : Nat} {spare : Nat → Bool} {held : Bool}
/-- the ints of element j -/
def RowI (w : World) (b off s j : Nat) (f : Nat → Int) : Prop := ∀ t, t < s → w.cell? ⟨b, off + j * s + t, none⟩ = some (.int .i64 (f t))
theorem spot_none {a : Addr} {v : Value} (h : w.cell? a = some v) : a.spot = none := by
  obtain ⟨b, o, sp⟩ := a
  cases sp with
  | none => rfl
  | some q => exact absurd h (by simp only [World.cell?]; split <;> simp)
theorem add_none {a : Addr} {n : Nat} {v : Value} (h : w.cell? (a.add n) = some v) : w.cell? ⟨a.block, a.off + n, none⟩ = some v ∧ a.block < w.heap.size := by
  have hb := World.block_lt_of_cell? _ _ h
  unfold Addr.add at h hb
  split at h
  · rename_i h0
    have hs := spot_none h
    rw [if_pos h0] at hb
    obtain ⟨b, o, sp⟩ := a
    simp only at hs
    subst hs h0
    exact ⟨h, hb⟩
  · rename_i h0
    rw [if_neg h0] at hb
    exact ⟨h, hb⟩
theorem slice_rows {t e : TypeId} {s : Nat} {fuel : Nat} {a : Option Addr} {len cap : Nat} {x : DataW H × List MemPlace} (ht : P.underlying t = some (.slice e)) (hs : P.cellsOf e = s) (hp : 0 < s)
    (he : ∀ {fuel : Nat} {cs : List Value} {x : DataW H × List MemPlace}, DataW.trod enc P w base spare held fuel e cs = some x → AllI cs)
    (h : DataW.trod enc P w base spare held fuel t [.slice a len cap] = some x) :
    len ≤ 9223372036854775807 ∧ ∃ F : Nat → Nat → Int, ∀ j, j < len → ∃ b off, a = some ⟨b, off, none⟩ ∧ b < w.heap.size ∧ RowI w b off s j (F j) := by
  rcases open_slice ht h with ⟨hcs, _⟩ | ⟨a', len', cap', m, n, D, Pl, hcs, hb, hl, hm, hmm, hx, hi⟩
  · simp at hcs
    obtain ⟨rfl, rfl, rfl⟩ := hcs
    exact ⟨by omega, fun _ _ => 0, fun j hj => by omega⟩
  · simp at hcs
    obtain ⟨rfl, rfl, rfl⟩ := hcs
    have hml : len ≤ m := by rw [hmm]; split <;> omega
    refine ⟨by unfold maxLen at hm; omega, ?_⟩
    have key : ∀ j, j < len → ∃ f : Nat → Int, ∀ t, t < s → w.cell? (a'.add (j * s + t)) = some (.int .i64 (f t)) := fun j hj => by
      obtain ⟨cs', hc, ht'⟩ := hi j (by omega)
      rw [hs] at hc
      obtain ⟨_, hcl, hat⟩ := World.cells?_some hc
      have ha := he ht'
      refine ⟨fun t => if h : t < cs'.length then (ha t h).choose else 0, fun t ht => ?_⟩
      have hcell := hat t ht
      have hlt : t < cs'.length := by omega
      rw [Go.Deep.add_add] at hcell
      rw [hcell, List.getElem?_eq_getElem hlt]
      dsimp only
      rw [dif_pos hlt]
      exact congrArg some (ha t hlt).choose_spec.1
    refine ⟨fun j => if h : j < len then (key j h).choose else fun _ => 0, fun j hj => ?_⟩
    have hk := (key j hj).choose_spec
    have h0 := add_none (hk 0 hp)
    have hsp : a'.spot = none := by
      have h1 := (key 0 (by omega)).choose_spec 0 hp
      rw [show (0 * s + 0) = 0 by omega] at h1
      exact spot_none h1
    refine ⟨a'.block, a'.off, ?_, h0.2, fun t ht => ?_⟩
    · obtain ⟨b, o, sp⟩ := a'; simp at hsp; subst hsp; rfl
    · dsimp only
      rw [dif_pos hj]
      have := (add_none (hk t ht)).1
      rwa [← Nat.add_assoc] at this
end
end Go.Proofs.Ythglgempbdaikaa
