/- How points and pairs read in this seat's program. -/
import Derived.Test.YtbmbibjidpgbnaaRows
import Derived.Test.YtbmbibjidpgbnaaOpnS
namespace Go.Proofs.Ytbmbibjidpgbnaa.Rd1
open Go.ChangeShapes Go.WideShapes Go.ChangeAt Go.RowKit
section
variable {H : Type} {enc : TypeId × Value → H} {w : World} {base : Nat} {spare : Nat → Bool} {held : Bool} {fuel : Nat} {cs : List Value} {x : DataW H × List MemPlace}
theorem cells3 : Try.prog.cellsOf 3 = 1 := by kernel_rfl
theorem cells42 : Try.prog.cellsOf 42 = 2 * Try.prog.cellsOf 3 := by kernel_rfl
theorem allI_pt (h : DataW.trod enc Try.prog w base spare held fuel 25 cs = some x) : AllI cs :=
  allI_struct Try.underlying25 (fun i f hf => by
    match i, hf with
    | 0, hf => cases hf; exact ⟨rfl, by kernel_rfl, Try.underlying3⟩
    | 1, hf => cases hf; exact ⟨rfl, by kernel_rfl, Try.underlying3⟩
    | i + 2, hf => simp at hf) (by kernel_rfl) h
theorem len3 (h : DataW.trod enc Try.prog w base spare held fuel 3 cs = some x) : cs.length = Try.prog.cellsOf 3 := by
  obtain ⟨n, hn, _⟩ := DataW.trod_int Try.underlying3 h
  rw [hn, cells3]
  rfl
theorem pos3 : 0 < Try.prog.cellsOf 3 := by rw [cells3]; exact Nat.zero_lt_one
theorem allI_a2 (h : DataW.trod enc Try.prog w base spare held fuel 42 cs = some x) : AllI cs := by
  refine allI_array (n := 2) (e := 3) Try.underlying42 ?_ cells42 pos3 h
  intro fuel cs x h
  exact ⟨allI_int Try.underlying3 h, len3 h⟩
theorem cells61 : Try.prog.cellsOf 61 = 4 := by kernel_rfl
theorem allI_deed (h : DataW.trod enc Try.prog w base spare held fuel 61 cs = some x) : AllI cs :=
  allI_struct Try.underlying61 (fun i f hf => by
    match i, hf with
    | 0, hf => cases hf; exact ⟨rfl, by kernel_rfl, Try.underlying3⟩
    | 1, hf => cases hf; exact ⟨rfl, by kernel_rfl, Try.underlying3⟩
    | 2, hf => cases hf; exact ⟨rfl, by kernel_rfl, Try.underlying2⟩
    | 3, hf => cases hf; exact ⟨rfl, by kernel_rfl, Try.underlying2⟩
    | i + 4, hf => simp at hf) (by kernel_rfl) h
theorem cells23 : Try.prog.cellsOf 23 = 6 := by kernel_rfl
theorem allI_map (h : DataW.trod enc Try.prog w base spare held fuel 23 cs = some x) : AllI cs :=
  allI_struct Try.underlying23 (fun i f hf => by
    match i, hf with
    | 0, hf => cases hf; exact ⟨rfl, by kernel_rfl, Try.underlying3⟩
    | 1, hf => cases hf; exact ⟨rfl, by kernel_rfl, Try.underlying3⟩
    | 2, hf => cases hf; exact ⟨rfl, by kernel_rfl, Try.underlying3⟩
    | 3, hf => cases hf; exact ⟨rfl, by kernel_rfl, Try.underlying3⟩
    | 4, hf => cases hf; exact ⟨rfl, by kernel_rfl, Try.underlying3⟩
    | 5, hf => cases hf; exact ⟨rfl, by kernel_rfl, Try.underlying3⟩
    | i + 6, hf => simp at hf) (by kernel_rfl) h
end
end Go.Proofs.Ytbmbibjidpgbnaa.Rd1
