/-
  No cell of these rows narrows 'for every input' (looked for: loops, veiled, ifaces, maps, wideKeys, modest, calm, conditions, laid).
  DERIVED. THE GIVEN ROWS OF THIS SEAT. 9 by the template 'for every input the law returns true; each argument reads behind the call as it read before'; 0 by the template 'total and deterministic' (their statements: YtbmbibjidpgbnaaTotals.lean).
  GIVEN WITH THE SEED: the statements are not yours to turn. If you find one false, say at which input.
  Laid BY PROGRAM, IN A SANDBOX (cutbox-rows.mjs): the forced cells as the released guide's own fill.sh prints them over the translation ff27e7b29bd587b8… (all of the seat's roots in one cut). By AI agents, Wed Nov 11 2026. No macro, syntax, notation, axiom, sorry.
-/
import Derived.Test.YtbmbibjidpgbnaaChecked
import GoSem.Claim
import GoSem.ClaimJoined
import GoSem.ClaimMapViews
import Derived.JoinedTies
import Derived.KernelRfl
namespace Go.Proofs.Ytbmbibjidpgbnaa
/- THE CELL 'sum', in the pinned program and in every row, IS THE sha256 OF THE DUMP (.gsa) THAT YtbmbibjidpgbnaaProg.lean LOADS. Nothing in Lean hashes anything: it is a label: what it is worth is what the hold of that sum in a sandbox is worth. -/
noncomputable def Try.pinned : Pinned := { name := "ytbmbibjidpgbnaa", sum := "ff27e7b29bd587b816c016f363b0bde2581419c20e92d914672239947b2cec61", checked := Try.checked }
namespace Rows
def none {H : Type} : Left H := { results := [], args := [] }

/-- 'frisketlaw10.AffineApplies': WHATEVER THE INPUT: true; the input reads as it did. -/
def affineAppliesSpec : ChangeSpec := { name := "affineApplies", fn := fun _ => fun
  | [d1, d2] => { results := [.lit (.bool true)], args := [d1, d2] }
  | _ => none }
def affineAppliesRow : OpenClaim := { program := "ytbmbibjidpgbnaa", sum := "ff27e7b29bd587b816c016f363b0bde2581419c20e92d914672239947b2cec61", func := "frisket/frisketlaw10.AffineApplies", spec := "affineApplies", apart := false }
def AffineAppliesSaid : Prop := affineAppliesRow.holds Try.pinned (OpenSpec.ofChange affineAppliesSpec)

/-- ITS FALSE NEIGHBOUR: 'it returns false'. Refute it at one input. -/
def affineAppliesWrong : ChangeSpec := { name := "affineApplies", fn := fun _ => fun
  | [d1, d2] => { results := [.lit (.bool false)], args := [d1, d2] }
  | _ => none }
def AffineAppliesWrongFalsely : Prop := affineAppliesRow.holds Try.pinned (OpenSpec.ofChange affineAppliesWrong)

/-- 'frisketlaw43.TallyOrder': WHATEVER THE INPUT: true; the input reads as it did. -/
def tallyOrderSpec : ChangeSpec := { name := "tallyOrder", fn := fun _ => fun
  | [d1, d2] => { results := [.lit (.bool true)], args := [d1, d2] }
  | _ => none }
def tallyOrderRow : OpenClaim := { program := "ytbmbibjidpgbnaa", sum := "ff27e7b29bd587b816c016f363b0bde2581419c20e92d914672239947b2cec61", func := "frisket/frisketlaw43.TallyOrder", spec := "tallyOrder", inPlace := ["sync/atomic.AddInt64", "sync/atomic.LoadInt64", "sync/atomic.CompareAndSwapInt64"], apart := false }
def TallyOrderSaid : Prop := tallyOrderRow.holds Try.pinned (OpenSpec.ofChange tallyOrderSpec)

/-- ITS FALSE NEIGHBOUR: 'it returns false'. Refute it at one input. -/
def tallyOrderWrong : ChangeSpec := { name := "tallyOrder", fn := fun _ => fun
  | [d1, d2] => { results := [.lit (.bool false)], args := [d1, d2] }
  | _ => none }
def TallyOrderWrongFalsely : Prop := tallyOrderRow.holds Try.pinned (OpenSpec.ofChange tallyOrderWrong)

/-- 'frisketlaw10.AffineKeeps': WHATEVER THE INPUT: true; the input reads as it did. -/
def affineKeepsSpec : ChangeSpec := { name := "affineKeeps", fn := fun _ => fun
  | [d1, d2, d3] => { results := [.lit (.bool true)], args := [d1, d2, d3] }
  | _ => none }
def affineKeepsRow : OpenClaim := { program := "ytbmbibjidpgbnaa", sum := "ff27e7b29bd587b816c016f363b0bde2581419c20e92d914672239947b2cec61", func := "frisket/frisketlaw10.AffineKeeps", spec := "affineKeeps", unfollowed := true, recurses := true, apart := false }
def AffineKeepsSaid : Prop := affineKeepsRow.holds Try.pinned (OpenSpec.ofChange affineKeepsSpec)

/-- ITS FALSE NEIGHBOUR: 'it returns false'. Refute it at one input. -/
def affineKeepsWrong : ChangeSpec := { name := "affineKeeps", fn := fun _ => fun
  | [d1, d2, d3] => { results := [.lit (.bool false)], args := [d1, d2, d3] }
  | _ => none }
def AffineKeepsWrongFalsely : Prop := affineKeepsRow.holds Try.pinned (OpenSpec.ofChange affineKeepsWrong)

/-- 'frisketlaw10.AffineThrough': WHATEVER THE INPUT: true; the input reads as it did. -/
def affineThroughSpec : ChangeSpec := { name := "affineThrough", fn := fun _ => fun
  | [d1, d2] => { results := [.lit (.bool true)], args := [d1, d2] }
  | _ => none }
def affineThroughRow : OpenClaim := { program := "ytbmbibjidpgbnaa", sum := "ff27e7b29bd587b816c016f363b0bde2581419c20e92d914672239947b2cec61", func := "frisket/frisketlaw10.AffineThrough", spec := "affineThrough", unfollowed := true, recurses := true, apart := false }
def AffineThroughSaid : Prop := affineThroughRow.holds Try.pinned (OpenSpec.ofChange affineThroughSpec)

/-- ITS FALSE NEIGHBOUR: 'it returns false'. Refute it at one input. -/
def affineThroughWrong : ChangeSpec := { name := "affineThrough", fn := fun _ => fun
  | [d1, d2] => { results := [.lit (.bool false)], args := [d1, d2] }
  | _ => none }
def AffineThroughWrongFalsely : Prop := affineThroughRow.holds Try.pinned (OpenSpec.ofChange affineThroughWrong)

/-- 'frisketlaw43.TallyDoes': WHATEVER THE INPUT: true; the input reads as it did. -/
def tallyDoesSpec : ChangeSpec := { name := "tallyDoes", fn := fun _ => fun
  | [d1, d2] => { results := [.lit (.bool true)], args := [d1, d2] }
  | _ => none }
def tallyDoesRow : OpenClaim := { program := "ytbmbibjidpgbnaa", sum := "ff27e7b29bd587b816c016f363b0bde2581419c20e92d914672239947b2cec61", func := "frisket/frisketlaw43.TallyDoes", spec := "tallyDoes", inPlace := ["sync/atomic.AddInt64", "sync/atomic.LoadInt64", "sync/atomic.CompareAndSwapInt64", "sync/atomic.SwapInt64"], apart := false }
def TallyDoesSaid : Prop := tallyDoesRow.holds Try.pinned (OpenSpec.ofChange tallyDoesSpec)

/-- ITS FALSE NEIGHBOUR: 'it returns false'. Refute it at one input. -/
def tallyDoesWrong : ChangeSpec := { name := "tallyDoes", fn := fun _ => fun
  | [d1, d2] => { results := [.lit (.bool false)], args := [d1, d2] }
  | _ => none }
def TallyDoesWrongFalsely : Prop := tallyDoesRow.holds Try.pinned (OpenSpec.ofChange tallyDoesWrong)

/-- 'frisketlaw43.TallyNone': WHATEVER THE INPUT: true; the input reads as it did. -/
def tallyNoneSpec : ChangeSpec := { name := "tallyNone", fn := fun _ => fun
  | [d1, d2] => { results := [.lit (.bool true)], args := [d1, d2] }
  | _ => none }
def tallyNoneRow : OpenClaim := { program := "ytbmbibjidpgbnaa", sum := "ff27e7b29bd587b816c016f363b0bde2581419c20e92d914672239947b2cec61", func := "frisket/frisketlaw43.TallyNone", spec := "tallyNone", inPlace := ["sync/atomic.LoadInt64", "sync/atomic.AddInt64", "sync/atomic.CompareAndSwapInt64", "sync/atomic.SwapInt64"], apart := false }
def TallyNoneSaid : Prop := tallyNoneRow.holds Try.pinned (OpenSpec.ofChange tallyNoneSpec)

/-- ITS FALSE NEIGHBOUR: 'it returns false'. Refute it at one input. -/
def tallyNoneWrong : ChangeSpec := { name := "tallyNone", fn := fun _ => fun
  | [d1, d2] => { results := [.lit (.bool false)], args := [d1, d2] }
  | _ => none }
def TallyNoneWrongFalsely : Prop := tallyNoneRow.holds Try.pinned (OpenSpec.ofChange tallyNoneWrong)

/-- 'frisketlaw11.BezQuads': WHATEVER THE INPUT: true; the input reads as it did. -/
def bezQuadsSpec : ChangeSpec := { name := "bezQuads", fn := fun _ => fun
  | [d] => { results := [.lit (.bool true)], args := [d] }
  | _ => none }
def bezQuadsRow : OpenClaim := { program := "ytbmbibjidpgbnaa", sum := "ff27e7b29bd587b816c016f363b0bde2581419c20e92d914672239947b2cec61", func := "frisket/frisketlaw11.BezQuads", spec := "bezQuads", apart := false }
def BezQuadsSaid : Prop := bezQuadsRow.holds Try.pinned (OpenSpec.ofChange bezQuadsSpec)

/-- ITS FALSE NEIGHBOUR: 'it returns false'. Refute it at one input. -/
def bezQuadsWrong : ChangeSpec := { name := "bezQuads", fn := fun _ => fun
  | [d] => { results := [.lit (.bool false)], args := [d] }
  | _ => none }
def BezQuadsWrongFalsely : Prop := bezQuadsRow.holds Try.pinned (OpenSpec.ofChange bezQuadsWrong)

/-- 'frisketlaw11.BezCubes': WHATEVER THE INPUT: true; the input reads as it did. -/
def bezCubesSpec : ChangeSpec := { name := "bezCubes", fn := fun _ => fun
  | [d] => { results := [.lit (.bool true)], args := [d] }
  | _ => none }
def bezCubesRow : OpenClaim := { program := "ytbmbibjidpgbnaa", sum := "ff27e7b29bd587b816c016f363b0bde2581419c20e92d914672239947b2cec61", func := "frisket/frisketlaw11.BezCubes", spec := "bezCubes", apart := false }
def BezCubesSaid : Prop := bezCubesRow.holds Try.pinned (OpenSpec.ofChange bezCubesSpec)

/-- ITS FALSE NEIGHBOUR: 'it returns false'. Refute it at one input. -/
def bezCubesWrong : ChangeSpec := { name := "bezCubes", fn := fun _ => fun
  | [d] => { results := [.lit (.bool false)], args := [d] }
  | _ => none }
def BezCubesWrongFalsely : Prop := bezCubesRow.holds Try.pinned (OpenSpec.ofChange bezCubesWrong)

/-- 'frisketlaw11.BezStays': WHATEVER THE INPUT: true; the input reads as it did. -/
def bezStaysSpec : ChangeSpec := { name := "bezStays", fn := fun _ => fun
  | [d] => { results := [.lit (.bool true)], args := [d] }
  | _ => none }
def bezStaysRow : OpenClaim := { program := "ytbmbibjidpgbnaa", sum := "ff27e7b29bd587b816c016f363b0bde2581419c20e92d914672239947b2cec61", func := "frisket/frisketlaw11.BezStays", spec := "bezStays", apart := false }
def BezStaysSaid : Prop := bezStaysRow.holds Try.pinned (OpenSpec.ofChange bezStaysSpec)

/-- ITS FALSE NEIGHBOUR: 'it returns false'. Refute it at one input. -/
def bezStaysWrong : ChangeSpec := { name := "bezStays", fn := fun _ => fun
  | [d] => { results := [.lit (.bool false)], args := [d] }
  | _ => none }
def BezStaysWrongFalsely : Prop := bezStaysRow.holds Try.pinned (OpenSpec.ofChange bezStaysWrong)

/- THE SECOND FORM. 'bulk': how many values and letters a reading holds, each counted each time it is reached (what is shared counts as often as it is met; a slice's spare places count too). A statement '..UptoSaid' is the law's where the arguments, and the package variables that the reading takes, are together of bulk at most 1048576: NARROWER than '..Said'. Prove '..Said' where nothing that the law and all that it calls make is longer than what came in: it says more and counts as full. Else prove '..UptoSaid'. A law counts once. -/
mutual
def uptoBulk {H : Type} : DataW H → Nat
  | .lit (.string bytes) => bytes.length + 1
  | .lit _ => 1
  | .nil => 1
  | .ptr d => uptoBulk d + 1
  | .slice elems spare => uptoBulkAll elems + uptoBulkAll spare + 1
  | .agg parts => uptoBulkAll parts + 1
  | .iface _ d => uptoBulk d + 1
  | .map entries => uptoBulkEntries entries + 1
  | .held _ => 1
def uptoBulkAll {H : Type} : List (DataW H) → Nat
  | [] => 0
  | d :: r => uptoBulk d + uptoBulkAll r
def uptoBulkEntries {H : Type} : List (Lit × DataW H) → Nat
  | [] => 0
  | x :: r => uptoBulkEntry x + uptoBulkEntries r
def uptoBulkEntry {H : Type} : Lit × DataW H → Nat
  | (.string bytes, d) => bytes.length + uptoBulk d + 1
  | (_, d) => uptoBulk d + 1
 end
def uptoSmall : (H : Type) → List (DataW H) → Bool := fun _ ds => decide (uptoBulkAll ds ≤ 1048576)
def OpenSpec.upto (s : _root_.Go.ChangeSpec) : _root_.Go.OpenSpec := { _root_.Go.OpenSpec.ofChange s with cond := some uptoSmall }

/-- 'frisketlaw10.AffineApplies', WHERE WHAT IT READS IS OF BULK AT MOST 1048576: true; the input reads as it did. -/
def affineAppliesUptoRow : OpenClaim := { program := "ytbmbibjidpgbnaa", sum := "ff27e7b29bd587b816c016f363b0bde2581419c20e92d914672239947b2cec61", func := "frisket/frisketlaw10.AffineApplies", spec := "affineApplies", apart := false, narrowed := true }
def AffineAppliesUptoSaid : Prop := affineAppliesUptoRow.holds Try.pinned (OpenSpec.upto affineAppliesSpec)

/-- 'frisketlaw43.TallyOrder', WHERE WHAT IT READS IS OF BULK AT MOST 1048576: true; the input reads as it did. -/
def tallyOrderUptoRow : OpenClaim := { program := "ytbmbibjidpgbnaa", sum := "ff27e7b29bd587b816c016f363b0bde2581419c20e92d914672239947b2cec61", func := "frisket/frisketlaw43.TallyOrder", spec := "tallyOrder", inPlace := ["sync/atomic.AddInt64", "sync/atomic.LoadInt64", "sync/atomic.CompareAndSwapInt64"], apart := false, narrowed := true }
def TallyOrderUptoSaid : Prop := tallyOrderUptoRow.holds Try.pinned (OpenSpec.upto tallyOrderSpec)

/-- 'frisketlaw10.AffineKeeps', WHERE WHAT IT READS IS OF BULK AT MOST 1048576: true; the input reads as it did. -/
def affineKeepsUptoRow : OpenClaim := { program := "ytbmbibjidpgbnaa", sum := "ff27e7b29bd587b816c016f363b0bde2581419c20e92d914672239947b2cec61", func := "frisket/frisketlaw10.AffineKeeps", spec := "affineKeeps", unfollowed := true, recurses := true, apart := false, narrowed := true }
def AffineKeepsUptoSaid : Prop := affineKeepsUptoRow.holds Try.pinned (OpenSpec.upto affineKeepsSpec)

/-- 'frisketlaw10.AffineThrough', WHERE WHAT IT READS IS OF BULK AT MOST 1048576: true; the input reads as it did. -/
def affineThroughUptoRow : OpenClaim := { program := "ytbmbibjidpgbnaa", sum := "ff27e7b29bd587b816c016f363b0bde2581419c20e92d914672239947b2cec61", func := "frisket/frisketlaw10.AffineThrough", spec := "affineThrough", unfollowed := true, recurses := true, apart := false, narrowed := true }
def AffineThroughUptoSaid : Prop := affineThroughUptoRow.holds Try.pinned (OpenSpec.upto affineThroughSpec)

/-- 'frisketlaw43.TallyDoes', WHERE WHAT IT READS IS OF BULK AT MOST 1048576: true; the input reads as it did. -/
def tallyDoesUptoRow : OpenClaim := { program := "ytbmbibjidpgbnaa", sum := "ff27e7b29bd587b816c016f363b0bde2581419c20e92d914672239947b2cec61", func := "frisket/frisketlaw43.TallyDoes", spec := "tallyDoes", inPlace := ["sync/atomic.AddInt64", "sync/atomic.LoadInt64", "sync/atomic.CompareAndSwapInt64", "sync/atomic.SwapInt64"], apart := false, narrowed := true }
def TallyDoesUptoSaid : Prop := tallyDoesUptoRow.holds Try.pinned (OpenSpec.upto tallyDoesSpec)

/-- 'frisketlaw43.TallyNone', WHERE WHAT IT READS IS OF BULK AT MOST 1048576: true; the input reads as it did. -/
def tallyNoneUptoRow : OpenClaim := { program := "ytbmbibjidpgbnaa", sum := "ff27e7b29bd587b816c016f363b0bde2581419c20e92d914672239947b2cec61", func := "frisket/frisketlaw43.TallyNone", spec := "tallyNone", inPlace := ["sync/atomic.LoadInt64", "sync/atomic.AddInt64", "sync/atomic.CompareAndSwapInt64", "sync/atomic.SwapInt64"], apart := false, narrowed := true }
def TallyNoneUptoSaid : Prop := tallyNoneUptoRow.holds Try.pinned (OpenSpec.upto tallyNoneSpec)

/-- 'frisketlaw11.BezQuads', WHERE WHAT IT READS IS OF BULK AT MOST 1048576: true; the input reads as it did. -/
def bezQuadsUptoRow : OpenClaim := { program := "ytbmbibjidpgbnaa", sum := "ff27e7b29bd587b816c016f363b0bde2581419c20e92d914672239947b2cec61", func := "frisket/frisketlaw11.BezQuads", spec := "bezQuads", apart := false, narrowed := true }
def BezQuadsUptoSaid : Prop := bezQuadsUptoRow.holds Try.pinned (OpenSpec.upto bezQuadsSpec)

/-- 'frisketlaw11.BezCubes', WHERE WHAT IT READS IS OF BULK AT MOST 1048576: true; the input reads as it did. -/
def bezCubesUptoRow : OpenClaim := { program := "ytbmbibjidpgbnaa", sum := "ff27e7b29bd587b816c016f363b0bde2581419c20e92d914672239947b2cec61", func := "frisket/frisketlaw11.BezCubes", spec := "bezCubes", apart := false, narrowed := true }
def BezCubesUptoSaid : Prop := bezCubesUptoRow.holds Try.pinned (OpenSpec.upto bezCubesSpec)

/-- 'frisketlaw11.BezStays', WHERE WHAT IT READS IS OF BULK AT MOST 1048576: true; the input reads as it did. -/
def bezStaysUptoRow : OpenClaim := { program := "ytbmbibjidpgbnaa", sum := "ff27e7b29bd587b816c016f363b0bde2581419c20e92d914672239947b2cec61", func := "frisket/frisketlaw11.BezStays", spec := "bezStays", apart := false, narrowed := true }
def BezStaysUptoSaid : Prop := bezStaysUptoRow.holds Try.pinned (OpenSpec.upto bezStaysSpec)

end Rows
end Go.Proofs.Ytbmbibjidpgbnaa
