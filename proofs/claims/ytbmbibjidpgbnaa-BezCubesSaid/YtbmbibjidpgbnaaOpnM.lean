/- How arrays of points read in this seat's program. -/
import Derived.Test.YtbmbibjidpgbnaaOpn1
namespace Go.Proofs.Ytbmbibjidpgbnaa.Rd1
open Go.ChangeShapes Go.WideShapes Go.ChangeAt Go.RowKit
section
variable {H : Type} {enc : TypeId × Value → H} {w : World} {base : Nat} {spare : Nat → Bool} {held : Bool} {fuel : Nat} {cs : List Value} {x : DataW H × List MemPlace}
theorem cells25 : Try.prog.cellsOf 25 = 2 := by kernel_rfl
theorem cells73 : Try.prog.cellsOf 73 = 4 * Try.prog.cellsOf 25 := by kernel_rfl
theorem pos25 : 0 < Try.prog.cellsOf 25 := by rw [cells25]; omega
theorem len25 (h : DataW.trod enc Try.prog w base spare held fuel 25 cs = some x) : cs.length = Try.prog.cellsOf 25 := by
  obtain ⟨xs, n, _, _, hl, _⟩ := DataW.trod_struct Try.underlying25 h
  exact hl
theorem allI_a4p (h : DataW.trod enc Try.prog w base spare held fuel 73 cs = some x) : AllI cs := by
  refine allI_array (n := 4) (e := 25) Try.underlying73 ?_ cells73 pos25 h
  intro fuel cs x h
  exact ⟨allI_pt h, len25 h⟩
end
end Go.Proofs.Ytbmbibjidpgbnaa.Rd1
namespace Go.Proofs.Ytbmbibjidpgbnaa.Rd1
open Go.ChangeShapes Go.WideShapes Go.ChangeAt Go.RowKit
section
variable {H : Type} {enc : TypeId × Value → H} {w : World} {base : Nat} {spare : Nat → Bool} {held : Bool} {fuel : Nat} {cs : List Value} {x : DataW H × List MemPlace}
theorem cells67 : Try.prog.cellsOf 67 = 3 * Try.prog.cellsOf 25 := by kernel_rfl
theorem allI_a3p (h : DataW.trod enc Try.prog w base spare held fuel 67 cs = some x) : AllI cs := by
  refine allI_array (n := 3) (e := 25) Try.underlying67 ?_ cells67 pos25 h
  intro fuel cs x h
  exact ⟨allI_pt h, len25 h⟩
end
end Go.Proofs.Ytbmbibjidpgbnaa.Rd1
