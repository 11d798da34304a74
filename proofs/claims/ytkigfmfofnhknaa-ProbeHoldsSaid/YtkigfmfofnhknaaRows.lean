/-
  No cell of these rows narrows 'for every input' (looked for: loops, veiled, ifaces, maps, wideKeys, modest, calm, conditions, laid).
  DERIVED. THE GIVEN ROWS OF THIS SEAT. 5 by the template 'for every input the law returns true; each argument reads behind the call as it read before'; 0 by the template 'total and deterministic' (their statements: YtkigfmfofnhknaaTotals.lean).
  GIVEN WITH THE SEED: the statements are not yours to turn. If you find one false, say at which input.
  Laid BY PROGRAM, IN A SANDBOX (cutbox-rows.mjs): the forced cells as the released guide's own fill.sh prints them over the translation 3a7b2f80ac258a33… (all of the seat's roots in one cut). By AI agents, Wed Nov 11 2026. No macro, syntax, notation, axiom, sorry.
-/
import Derived.Test.YtkigfmfofnhknaaChecked
import GoSem.Claim
import GoSem.ClaimJoined
import GoSem.ClaimMapViews
import Derived.JoinedTies
import Derived.KernelRfl
namespace Go.Proofs.Ytkigfmfofnhknaa
/- THE CELL 'sum', in the pinned program and in every row, IS THE sha256 OF THE DUMP (.gsa) THAT YtkigfmfofnhknaaProg.lean LOADS. Nothing in Lean hashes anything: it is a label: what it is worth is what the hold of that sum in a sandbox is worth. -/
noncomputable def Try.pinned : Pinned := { name := "ytkigfmfofnhknaa", sum := "3a7b2f80ac258a33cccc99785e4f582b915d88a69d2a1a8a10780a1630dce204", checked := Try.checked }
namespace Rows
def none {H : Type} : Left H := { results := [], args := [] }

/-- 'cubbyholelaw06.ProbeAt': WHATEVER THE INPUT: true; the input reads as it did. -/
def probeAtSpec : ChangeSpec := { name := "probeAt", fn := fun _ => fun
  | [d1, d2, d3] => { results := [.lit (.bool true)], args := [d1, d2, d3] }
  | _ => none }
def probeAtRow : OpenClaim := { program := "ytkigfmfofnhknaa", sum := "3a7b2f80ac258a33cccc99785e4f582b915d88a69d2a1a8a10780a1630dce204", func := "cubbyhole/cubbyholelaw06.ProbeAt", spec := "probeAt", unfollowed := true, recurses := true, apart := false }
def ProbeAtSaid : Prop := probeAtRow.holds Try.pinned (OpenSpec.ofChange probeAtSpec)

/-- ITS FALSE NEIGHBOUR: 'it returns false'. Refute it at one input. -/
def probeAtWrong : ChangeSpec := { name := "probeAt", fn := fun _ => fun
  | [d1, d2, d3] => { results := [.lit (.bool false)], args := [d1, d2, d3] }
  | _ => none }
def ProbeAtWrongFalsely : Prop := probeAtRow.holds Try.pinned (OpenSpec.ofChange probeAtWrong)

/-- 'cubbyholelaw06.ProbeAll': WHATEVER THE INPUT: true; the input reads as it did. -/
def probeAllSpec : ChangeSpec := { name := "probeAll", fn := fun _ => fun
  | [d1, d2] => { results := [.lit (.bool true)], args := [d1, d2] }
  | _ => none }
def probeAllRow : OpenClaim := { program := "ytkigfmfofnhknaa", sum := "3a7b2f80ac258a33cccc99785e4f582b915d88a69d2a1a8a10780a1630dce204", func := "cubbyhole/cubbyholelaw06.ProbeAll", spec := "probeAll", unfollowed := true, recurses := true, apart := false }
def ProbeAllSaid : Prop := probeAllRow.holds Try.pinned (OpenSpec.ofChange probeAllSpec)

/-- ITS FALSE NEIGHBOUR: 'it returns false'. Refute it at one input. -/
def probeAllWrong : ChangeSpec := { name := "probeAll", fn := fun _ => fun
  | [d1, d2] => { results := [.lit (.bool false)], args := [d1, d2] }
  | _ => none }
def ProbeAllWrongFalsely : Prop := probeAllRow.holds Try.pinned (OpenSpec.ofChange probeAllWrong)

/-- 'cubbyholelaw06.ProbeIndex': WHATEVER THE INPUT: true; the input reads as it did. -/
def probeIndexSpec : ChangeSpec := { name := "probeIndex", fn := fun _ => fun
  | [d1, d2, d3] => { results := [.lit (.bool true)], args := [d1, d2, d3] }
  | _ => none }
def probeIndexRow : OpenClaim := { program := "ytkigfmfofnhknaa", sum := "3a7b2f80ac258a33cccc99785e4f582b915d88a69d2a1a8a10780a1630dce204", func := "cubbyhole/cubbyholelaw06.ProbeIndex", spec := "probeIndex", unfollowed := true, recurses := true, apart := false }
def ProbeIndexSaid : Prop := probeIndexRow.holds Try.pinned (OpenSpec.ofChange probeIndexSpec)

/-- ITS FALSE NEIGHBOUR: 'it returns false'. Refute it at one input. -/
def probeIndexWrong : ChangeSpec := { name := "probeIndex", fn := fun _ => fun
  | [d1, d2, d3] => { results := [.lit (.bool false)], args := [d1, d2, d3] }
  | _ => none }
def ProbeIndexWrongFalsely : Prop := probeIndexRow.holds Try.pinned (OpenSpec.ofChange probeIndexWrong)

/-- 'cubbyholelaw06.ProbeIterates': WHATEVER THE INPUT: true; the input reads as it did. -/
def probeIteratesSpec : ChangeSpec := { name := "probeIterates", fn := fun _ => fun
  | [d1, d2, d3] => { results := [.lit (.bool true)], args := [d1, d2, d3] }
  | _ => none }
def probeIteratesRow : OpenClaim := { program := "ytkigfmfofnhknaa", sum := "3a7b2f80ac258a33cccc99785e4f582b915d88a69d2a1a8a10780a1630dce204", func := "cubbyhole/cubbyholelaw06.ProbeIterates", spec := "probeIterates", unfollowed := true, recurses := true, apart := false }
def ProbeIteratesSaid : Prop := probeIteratesRow.holds Try.pinned (OpenSpec.ofChange probeIteratesSpec)

/-- ITS FALSE NEIGHBOUR: 'it returns false'. Refute it at one input. -/
def probeIteratesWrong : ChangeSpec := { name := "probeIterates", fn := fun _ => fun
  | [d1, d2, d3] => { results := [.lit (.bool false)], args := [d1, d2, d3] }
  | _ => none }
def ProbeIteratesWrongFalsely : Prop := probeIteratesRow.holds Try.pinned (OpenSpec.ofChange probeIteratesWrong)

/-- 'cubbyholelaw06.ProbeHolds': WHATEVER THE INPUT: true; the input reads as it did. -/
def probeHoldsSpec : ChangeSpec := { name := "probeHolds", fn := fun _ => fun
  | [d1, d2, d3, d4] => { results := [.lit (.bool true)], args := [d1, d2, d3, d4] }
  | _ => none }
def probeHoldsRow : OpenClaim := { program := "ytkigfmfofnhknaa", sum := "3a7b2f80ac258a33cccc99785e4f582b915d88a69d2a1a8a10780a1630dce204", func := "cubbyhole/cubbyholelaw06.ProbeHolds", spec := "probeHolds", unfollowed := true, recurses := true, apart := false }
def ProbeHoldsSaid : Prop := probeHoldsRow.holds Try.pinned (OpenSpec.ofChange probeHoldsSpec)

/-- ITS FALSE NEIGHBOUR: 'it returns false'. Refute it at one input. -/
def probeHoldsWrong : ChangeSpec := { name := "probeHolds", fn := fun _ => fun
  | [d1, d2, d3, d4] => { results := [.lit (.bool false)], args := [d1, d2, d3, d4] }
  | _ => none }
def ProbeHoldsWrongFalsely : Prop := probeHoldsRow.holds Try.pinned (OpenSpec.ofChange probeHoldsWrong)

/- THE SECOND FORM. 'bulk': how many values and letters a reading holds, each counted each time it is reached (what is shared counts as often as it is met; a slice's spare places count too). A statement '..UptoSaid' is the law's where the arguments, and the package variables that the reading takes, are together of bulk at most 1048576: NARROWER than '..Said'. Prove '..Said' where nothing that the law and all that it calls make is longer than what came in: it says more and counts as full. Else prove '..UptoSaid'. A law counts once. -/
mutual
def uptoBulk {H : Type} : DataW H → Nat
  | .lit (.string bytes) => bytes.length + 1
  | .lit _ => 1
  | .nil => 1
  | .ptr d => uptoBulk d + 1
  | .slice elems spare => uptoBulkAll elems + uptoBulkAll spare + 1
  | .agg parts => uptoBulkAll parts + 1
  | .iface _ d => uptoBulk d + 1
  | .map entries => uptoBulkEntries entries + 1
  | .held _ => 1
def uptoBulkAll {H : Type} : List (DataW H) → Nat
  | [] => 0
  | d :: r => uptoBulk d + uptoBulkAll r
def uptoBulkEntries {H : Type} : List (Lit × DataW H) → Nat
  | [] => 0
  | x :: r => uptoBulkEntry x + uptoBulkEntries r
def uptoBulkEntry {H : Type} : Lit × DataW H → Nat
  | (.string bytes, d) => bytes.length + uptoBulk d + 1
  | (_, d) => uptoBulk d + 1
 end
def uptoSmall : (H : Type) → List (DataW H) → Bool := fun _ ds => decide (uptoBulkAll ds ≤ 1048576)
def OpenSpec.upto (s : _root_.Go.ChangeSpec) : _root_.Go.OpenSpec := { _root_.Go.OpenSpec.ofChange s with cond := some uptoSmall }

/-- 'cubbyholelaw06.ProbeAt', WHERE WHAT IT READS IS OF BULK AT MOST 1048576: true; the input reads as it did. -/
def probeAtUptoRow : OpenClaim := { program := "ytkigfmfofnhknaa", sum := "3a7b2f80ac258a33cccc99785e4f582b915d88a69d2a1a8a10780a1630dce204", func := "cubbyhole/cubbyholelaw06.ProbeAt", spec := "probeAt", unfollowed := true, recurses := true, apart := false, narrowed := true }
def ProbeAtUptoSaid : Prop := probeAtUptoRow.holds Try.pinned (OpenSpec.upto probeAtSpec)

/-- 'cubbyholelaw06.ProbeAll', WHERE WHAT IT READS IS OF BULK AT MOST 1048576: true; the input reads as it did. -/
def probeAllUptoRow : OpenClaim := { program := "ytkigfmfofnhknaa", sum := "3a7b2f80ac258a33cccc99785e4f582b915d88a69d2a1a8a10780a1630dce204", func := "cubbyhole/cubbyholelaw06.ProbeAll", spec := "probeAll", unfollowed := true, recurses := true, apart := false, narrowed := true }
def ProbeAllUptoSaid : Prop := probeAllUptoRow.holds Try.pinned (OpenSpec.upto probeAllSpec)

/-- 'cubbyholelaw06.ProbeIndex', WHERE WHAT IT READS IS OF BULK AT MOST 1048576: true; the input reads as it did. -/
def probeIndexUptoRow : OpenClaim := { program := "ytkigfmfofnhknaa", sum := "3a7b2f80ac258a33cccc99785e4f582b915d88a69d2a1a8a10780a1630dce204", func := "cubbyhole/cubbyholelaw06.ProbeIndex", spec := "probeIndex", unfollowed := true, recurses := true, apart := false, narrowed := true }
def ProbeIndexUptoSaid : Prop := probeIndexUptoRow.holds Try.pinned (OpenSpec.upto probeIndexSpec)

/-- 'cubbyholelaw06.ProbeIterates', WHERE WHAT IT READS IS OF BULK AT MOST 1048576: true; the input reads as it did. -/
def probeIteratesUptoRow : OpenClaim := { program := "ytkigfmfofnhknaa", sum := "3a7b2f80ac258a33cccc99785e4f582b915d88a69d2a1a8a10780a1630dce204", func := "cubbyhole/cubbyholelaw06.ProbeIterates", spec := "probeIterates", unfollowed := true, recurses := true, apart := false, narrowed := true }
def ProbeIteratesUptoSaid : Prop := probeIteratesUptoRow.holds Try.pinned (OpenSpec.upto probeIteratesSpec)

/-- 'cubbyholelaw06.ProbeHolds', WHERE WHAT IT READS IS OF BULK AT MOST 1048576: true; the input reads as it did. -/
def probeHoldsUptoRow : OpenClaim := { program := "ytkigfmfofnhknaa", sum := "3a7b2f80ac258a33cccc99785e4f582b915d88a69d2a1a8a10780a1630dce204", func := "cubbyhole/cubbyholelaw06.ProbeHolds", spec := "probeHolds", unfollowed := true, recurses := true, apart := false, narrowed := true }
def ProbeHoldsUptoSaid : Prop := probeHoldsUptoRow.holds Try.pinned (OpenSpec.upto probeHoldsSpec)

end Rows
end Go.Proofs.Ytkigfmfofnhknaa
