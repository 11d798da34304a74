/-
  No cell of these rows narrows 'for every input' (looked for: loops, veiled, ifaces, maps, wideKeys, modest, calm, conditions, laid).
  DERIVED. THE GIVEN ROWS OF THIS SEAT. 5 by the template 'for every input the law returns true; each argument reads behind the call as it read before'; 0 by the template 'total and deterministic' (their statements: YtffniljefbpoiaaTotals.lean).
  GIVEN WITH THE SEED: the statements are not yours to turn. If you find one false, say at which input.
  Laid BY PROGRAM, IN A SANDBOX (cutbox-rows.mjs): the forced cells as the released guide's own fill.sh prints them over the translation 665abcaf9502e555… (all of the seat's roots in one cut). By AI agents, Wed Nov 11 2026. No macro, syntax, notation, axiom, sorry.
-/
import Derived.Test.YtffniljefbpoiaaChecked
import GoSem.Claim
import GoSem.ClaimJoined
import GoSem.ClaimMapViews
import Derived.JoinedTies
import Derived.KernelRfl
namespace Go.Proofs.Ytffniljefbpoiaa
/- THE CELL 'sum', in the pinned program and in every row, IS THE sha256 OF THE DUMP (.gsa) THAT YtffniljefbpoiaaProg.lean LOADS. Nothing in Lean hashes anything: it is a label: what it is worth is what the hold of that sum in a sandbox is worth. -/
noncomputable def Try.pinned : Pinned := { name := "ytffniljefbpoiaa", sum := "665abcaf9502e555df47b822c10abf4f8435fb3a00d1d1e3679ef6d512b6d4e9", checked := Try.checked }
namespace Rows
def none {H : Type} : Left H := { results := [], args := [] }

/-- 'cubbyholelaw33.SketchPlays': WHATEVER THE INPUT: true; the input reads as it did. -/
def sketchPlaysSpec : ChangeSpec := { name := "sketchPlays", fn := fun _ => fun
  | [d1, d2, d3, d4] => { results := [.lit (.bool true)], args := [d1, d2, d3, d4] }
  | _ => none }
def sketchPlaysRow : OpenClaim := { program := "ytffniljefbpoiaa", sum := "665abcaf9502e555df47b822c10abf4f8435fb3a00d1d1e3679ef6d512b6d4e9", func := "cubbyhole/cubbyholelaw33.SketchPlays", spec := "sketchPlays", apart := false }
def SketchPlaysSaid : Prop := sketchPlaysRow.holds Try.pinned (OpenSpec.ofChange sketchPlaysSpec)

/-- ITS FALSE NEIGHBOUR: 'it returns false'. Refute it at one input. -/
def sketchPlaysWrong : ChangeSpec := { name := "sketchPlays", fn := fun _ => fun
  | [d1, d2, d3, d4] => { results := [.lit (.bool false)], args := [d1, d2, d3, d4] }
  | _ => none }
def SketchPlaysWrongFalsely : Prop := sketchPlaysRow.holds Try.pinned (OpenSpec.ofChange sketchPlaysWrong)

/-- 'cubbyholelaw33.SketchNone': WHATEVER THE INPUT: true; the input reads as it did. -/
def sketchNoneSpec : ChangeSpec := { name := "sketchNone", fn := fun _ => fun
  | [d1, d2] => { results := [.lit (.bool true)], args := [d1, d2] }
  | _ => none }
def sketchNoneRow : OpenClaim := { program := "ytffniljefbpoiaa", sum := "665abcaf9502e555df47b822c10abf4f8435fb3a00d1d1e3679ef6d512b6d4e9", func := "cubbyhole/cubbyholelaw33.SketchNone", spec := "sketchNone", apart := false }
def SketchNoneSaid : Prop := sketchNoneRow.holds Try.pinned (OpenSpec.ofChange sketchNoneSpec)

/-- ITS FALSE NEIGHBOUR: 'it returns false'. Refute it at one input. -/
def sketchNoneWrong : ChangeSpec := { name := "sketchNone", fn := fun _ => fun
  | [d1, d2] => { results := [.lit (.bool false)], args := [d1, d2] }
  | _ => none }
def SketchNoneWrongFalsely : Prop := sketchNoneRow.holds Try.pinned (OpenSpec.ofChange sketchNoneWrong)

/-- 'cubbyholelaw33.SketchNew': WHATEVER THE INPUT: true; the input reads as it did. -/
def sketchNewSpec : ChangeSpec := { name := "sketchNew", fn := fun _ => fun
  | [d1, d2, d3] => { results := [.lit (.bool true)], args := [d1, d2, d3] }
  | _ => none }
def sketchNewRow : OpenClaim := { program := "ytffniljefbpoiaa", sum := "665abcaf9502e555df47b822c10abf4f8435fb3a00d1d1e3679ef6d512b6d4e9", func := "cubbyhole/cubbyholelaw33.SketchNew", spec := "sketchNew", apart := false }
def SketchNewSaid : Prop := sketchNewRow.holds Try.pinned (OpenSpec.ofChange sketchNewSpec)

/-- ITS FALSE NEIGHBOUR: 'it returns false'. Refute it at one input. -/
def sketchNewWrong : ChangeSpec := { name := "sketchNew", fn := fun _ => fun
  | [d1, d2, d3] => { results := [.lit (.bool false)], args := [d1, d2, d3] }
  | _ => none }
def SketchNewWrongFalsely : Prop := sketchNewRow.holds Try.pinned (OpenSpec.ofChange sketchNewWrong)

/-- 'cubbyholelaw33.SketchPlaces': WHATEVER THE INPUT: true; the input reads as it did. -/
def sketchPlacesSpec : ChangeSpec := { name := "sketchPlaces", fn := fun _ => fun
  | [d1, d2, d3] => { results := [.lit (.bool true)], args := [d1, d2, d3] }
  | _ => none }
def sketchPlacesRow : OpenClaim := { program := "ytffniljefbpoiaa", sum := "665abcaf9502e555df47b822c10abf4f8435fb3a00d1d1e3679ef6d512b6d4e9", func := "cubbyhole/cubbyholelaw33.SketchPlaces", spec := "sketchPlaces", apart := false }
def SketchPlacesSaid : Prop := sketchPlacesRow.holds Try.pinned (OpenSpec.ofChange sketchPlacesSpec)

/-- ITS FALSE NEIGHBOUR: 'it returns false'. Refute it at one input. -/
def sketchPlacesWrong : ChangeSpec := { name := "sketchPlaces", fn := fun _ => fun
  | [d1, d2, d3] => { results := [.lit (.bool false)], args := [d1, d2, d3] }
  | _ => none }
def SketchPlacesWrongFalsely : Prop := sketchPlacesRow.holds Try.pinned (OpenSpec.ofChange sketchPlacesWrong)

/-- 'cubbyholelaw33.SketchHolds': WHATEVER THE INPUT: true; the input reads as it did. -/
def sketchHoldsSpec : ChangeSpec := { name := "sketchHolds", fn := fun _ => fun
  | [d1, d2, d3, d4] => { results := [.lit (.bool true)], args := [d1, d2, d3, d4] }
  | _ => none }
def sketchHoldsRow : OpenClaim := { program := "ytffniljefbpoiaa", sum := "665abcaf9502e555df47b822c10abf4f8435fb3a00d1d1e3679ef6d512b6d4e9", func := "cubbyhole/cubbyholelaw33.SketchHolds", spec := "sketchHolds", apart := false }
def SketchHoldsSaid : Prop := sketchHoldsRow.holds Try.pinned (OpenSpec.ofChange sketchHoldsSpec)

/-- ITS FALSE NEIGHBOUR: 'it returns false'. Refute it at one input. -/
def sketchHoldsWrong : ChangeSpec := { name := "sketchHolds", fn := fun _ => fun
  | [d1, d2, d3, d4] => { results := [.lit (.bool false)], args := [d1, d2, d3, d4] }
  | _ => none }
def SketchHoldsWrongFalsely : Prop := sketchHoldsRow.holds Try.pinned (OpenSpec.ofChange sketchHoldsWrong)

/- THE SECOND FORM. 'bulk': how many values and letters a reading holds, each counted each time it is reached (what is shared counts as often as it is met; a slice's spare places count too). A statement '..UptoSaid' is the law's where the arguments, and the package variables that the reading takes, are together of bulk at most 1048576: NARROWER than '..Said'. Prove '..Said' where nothing that the law and all that it calls make is longer than what came in: it says more and counts as full. Else prove '..UptoSaid'. A law counts once. -/
mutual
def uptoBulk {H : Type} : DataW H → Nat
  | .lit (.string bytes) => bytes.length + 1
  | .lit _ => 1
  | .nil => 1
  | .ptr d => uptoBulk d + 1
  | .slice elems spare => uptoBulkAll elems + uptoBulkAll spare + 1
  | .agg parts => uptoBulkAll parts + 1
  | .iface _ d => uptoBulk d + 1
  | .map entries => uptoBulkEntries entries + 1
  | .held _ => 1
def uptoBulkAll {H : Type} : List (DataW H) → Nat
  | [] => 0
  | d :: r => uptoBulk d + uptoBulkAll r
def uptoBulkEntries {H : Type} : List (Lit × DataW H) → Nat
  | [] => 0
  | x :: r => uptoBulkEntry x + uptoBulkEntries r
def uptoBulkEntry {H : Type} : Lit × DataW H → Nat
  | (.string bytes, d) => bytes.length + uptoBulk d + 1
  | (_, d) => uptoBulk d + 1
 end
def uptoSmall : (H : Type) → List (DataW H) → Bool := fun _ ds => decide (uptoBulkAll ds ≤ 1048576)
def OpenSpec.upto (s : _root_.Go.ChangeSpec) : _root_.Go.OpenSpec := { _root_.Go.OpenSpec.ofChange s with cond := some uptoSmall }

/-- 'cubbyholelaw33.SketchPlays', WHERE WHAT IT READS IS OF BULK AT MOST 1048576: true; the input reads as it did. -/
def sketchPlaysUptoRow : OpenClaim := { program := "ytffniljefbpoiaa", sum := "665abcaf9502e555df47b822c10abf4f8435fb3a00d1d1e3679ef6d512b6d4e9", func := "cubbyhole/cubbyholelaw33.SketchPlays", spec := "sketchPlays", apart := false, narrowed := true }
def SketchPlaysUptoSaid : Prop := sketchPlaysUptoRow.holds Try.pinned (OpenSpec.upto sketchPlaysSpec)

/-- 'cubbyholelaw33.SketchNone', WHERE WHAT IT READS IS OF BULK AT MOST 1048576: true; the input reads as it did. -/
def sketchNoneUptoRow : OpenClaim := { program := "ytffniljefbpoiaa", sum := "665abcaf9502e555df47b822c10abf4f8435fb3a00d1d1e3679ef6d512b6d4e9", func := "cubbyhole/cubbyholelaw33.SketchNone", spec := "sketchNone", apart := false, narrowed := true }
def SketchNoneUptoSaid : Prop := sketchNoneUptoRow.holds Try.pinned (OpenSpec.upto sketchNoneSpec)

/-- 'cubbyholelaw33.SketchNew', WHERE WHAT IT READS IS OF BULK AT MOST 1048576: true; the input reads as it did. -/
def sketchNewUptoRow : OpenClaim := { program := "ytffniljefbpoiaa", sum := "665abcaf9502e555df47b822c10abf4f8435fb3a00d1d1e3679ef6d512b6d4e9", func := "cubbyhole/cubbyholelaw33.SketchNew", spec := "sketchNew", apart := false, narrowed := true }
def SketchNewUptoSaid : Prop := sketchNewUptoRow.holds Try.pinned (OpenSpec.upto sketchNewSpec)

/-- 'cubbyholelaw33.SketchPlaces', WHERE WHAT IT READS IS OF BULK AT MOST 1048576: true; the input reads as it did. -/
def sketchPlacesUptoRow : OpenClaim := { program := "ytffniljefbpoiaa", sum := "665abcaf9502e555df47b822c10abf4f8435fb3a00d1d1e3679ef6d512b6d4e9", func := "cubbyhole/cubbyholelaw33.SketchPlaces", spec := "sketchPlaces", apart := false, narrowed := true }
def SketchPlacesUptoSaid : Prop := sketchPlacesUptoRow.holds Try.pinned (OpenSpec.upto sketchPlacesSpec)

/-- 'cubbyholelaw33.SketchHolds', WHERE WHAT IT READS IS OF BULK AT MOST 1048576: true; the input reads as it did. -/
def sketchHoldsUptoRow : OpenClaim := { program := "ytffniljefbpoiaa", sum := "665abcaf9502e555df47b822c10abf4f8435fb3a00d1d1e3679ef6d512b6d4e9", func := "cubbyhole/cubbyholelaw33.SketchHolds", spec := "sketchHolds", apart := false, narrowed := true }
def SketchHoldsUptoSaid : Prop := sketchHoldsUptoRow.holds Try.pinned (OpenSpec.upto sketchHoldsSpec)

end Rows
end Go.Proofs.Ytffniljefbpoiaa
