/-
  No cell of these rows narrows 'for every input' (looked for: loops, veiled, ifaces, maps, wideKeys, modest, calm, conditions, laid).
  DERIVED. THE GIVEN ROWS OF THIS SEAT. 4 by the template 'for every input the law returns true; each argument reads behind the call as it read before'; 0 by the template 'total and deterministic' (their statements: YteibleghnadelaaTotals.lean).
  GIVEN WITH THE SEED: the statements are not yours to turn. If you find one false, say at which input.
  Laid BY PROGRAM, IN A SANDBOX (cutbox-rows.mjs): the forced cells as the released guide's own fill.sh prints them over the translation a64831ef7e997911… (all of the seat's roots in one cut). By AI agents, Wed Nov 11 2026. No macro, syntax, notation, axiom, sorry.
-/
import Derived.Test.YteibleghnadelaaChecked
import GoSem.Claim
import GoSem.ClaimJoined
import GoSem.ClaimMapViews
import Derived.JoinedTies
import Derived.KernelRfl
namespace Go.Proofs.Yteibleghnadelaa
/- THE CELL 'sum', in the pinned program and in every row, IS THE sha256 OF THE DUMP (.gsa) THAT YteibleghnadelaaProg.lean LOADS. Nothing in Lean hashes anything: it is a label: what it is worth is what the hold of that sum in a sandbox is worth. -/
noncomputable def Try.pinned : Pinned := { name := "yteibleghnadelaa", sum := "a64831ef7e99791142e125dc73695c48e8339ea2f118d298dfdea9f60afb46f9", checked := Try.checked }
namespace Rows
def none {H : Type} : Left H := { results := [], args := [] }

/-- 'cubbyholelaw18.VictimOrders': WHATEVER THE INPUT: true; the input reads as it did. -/
def victimOrdersSpec : ChangeSpec := { name := "victimOrders", fn := fun _ => fun
  | [d1, d2] => { results := [.lit (.bool true)], args := [d1, d2] }
  | _ => none }
def victimOrdersRow : OpenClaim := { program := "yteibleghnadelaa", sum := "a64831ef7e99791142e125dc73695c48e8339ea2f118d298dfdea9f60afb46f9", func := "cubbyhole/cubbyholelaw18.VictimOrders", spec := "victimOrders", unfollowed := true, recurses := true, apart := false }
def VictimOrdersSaid : Prop := victimOrdersRow.holds Try.pinned (OpenSpec.ofChange victimOrdersSpec)

/-- ITS FALSE NEIGHBOUR: 'it returns false'. Refute it at one input. -/
def victimOrdersWrong : ChangeSpec := { name := "victimOrders", fn := fun _ => fun
  | [d1, d2] => { results := [.lit (.bool false)], args := [d1, d2] }
  | _ => none }
def VictimOrdersWrongFalsely : Prop := victimOrdersRow.holds Try.pinned (OpenSpec.ofChange victimOrdersWrong)

/-- 'cubbyholelaw18.VictimChooses': WHATEVER THE INPUT: true; the input reads as it did. -/
def victimChoosesSpec : ChangeSpec := { name := "victimChooses", fn := fun _ => fun
  | [d1, d2, d3, d4] => { results := [.lit (.bool true)], args := [d1, d2, d3, d4] }
  | _ => none }
def victimChoosesRow : OpenClaim := { program := "yteibleghnadelaa", sum := "a64831ef7e99791142e125dc73695c48e8339ea2f118d298dfdea9f60afb46f9", func := "cubbyhole/cubbyholelaw18.VictimChooses", spec := "victimChooses", unfollowed := true, recurses := true, apart := false }
def VictimChoosesSaid : Prop := victimChoosesRow.holds Try.pinned (OpenSpec.ofChange victimChoosesSpec)

/-- ITS FALSE NEIGHBOUR: 'it returns false'. Refute it at one input. -/
def victimChoosesWrong : ChangeSpec := { name := "victimChooses", fn := fun _ => fun
  | [d1, d2, d3, d4] => { results := [.lit (.bool false)], args := [d1, d2, d3, d4] }
  | _ => none }
def VictimChoosesWrongFalsely : Prop := victimChoosesRow.holds Try.pinned (OpenSpec.ofChange victimChoosesWrong)

/-- 'cubbyholelaw18.VictimChecks': WHATEVER THE INPUT: true; the input reads as it did. -/
def victimChecksSpec : ChangeSpec := { name := "victimChecks", fn := fun _ => fun
  | [d1, d2, d3, d4, d5, d6, d7] => { results := [.lit (.bool true)], args := [d1, d2, d3, d4, d5, d6, d7] }
  | _ => none }
def victimChecksRow : OpenClaim := { program := "yteibleghnadelaa", sum := "a64831ef7e99791142e125dc73695c48e8339ea2f118d298dfdea9f60afb46f9", func := "cubbyhole/cubbyholelaw18.VictimChecks", spec := "victimChecks", unfollowed := true, recurses := true, apart := false }
def VictimChecksSaid : Prop := victimChecksRow.holds Try.pinned (OpenSpec.ofChange victimChecksSpec)

/-- ITS FALSE NEIGHBOUR: 'it returns false'. Refute it at one input. -/
def victimChecksWrong : ChangeSpec := { name := "victimChecks", fn := fun _ => fun
  | [d1, d2, d3, d4, d5, d6, d7] => { results := [.lit (.bool false)], args := [d1, d2, d3, d4, d5, d6, d7] }
  | _ => none }
def VictimChecksWrongFalsely : Prop := victimChecksRow.holds Try.pinned (OpenSpec.ofChange victimChecksWrong)

/-- 'cubbyholelaw18.VictimHolds': WHATEVER THE INPUT: true; the input reads as it did. -/
def victimHoldsSpec : ChangeSpec := { name := "victimHolds", fn := fun _ => fun
  | [d1, d2, d3, d4, d5] => { results := [.lit (.bool true)], args := [d1, d2, d3, d4, d5] }
  | _ => none }
def victimHoldsRow : OpenClaim := { program := "yteibleghnadelaa", sum := "a64831ef7e99791142e125dc73695c48e8339ea2f118d298dfdea9f60afb46f9", func := "cubbyhole/cubbyholelaw18.VictimHolds", spec := "victimHolds", unfollowed := true, recurses := true, apart := false }
def VictimHoldsSaid : Prop := victimHoldsRow.holds Try.pinned (OpenSpec.ofChange victimHoldsSpec)

/-- ITS FALSE NEIGHBOUR: 'it returns false'. Refute it at one input. -/
def victimHoldsWrong : ChangeSpec := { name := "victimHolds", fn := fun _ => fun
  | [d1, d2, d3, d4, d5] => { results := [.lit (.bool false)], args := [d1, d2, d3, d4, d5] }
  | _ => none }
def VictimHoldsWrongFalsely : Prop := victimHoldsRow.holds Try.pinned (OpenSpec.ofChange victimHoldsWrong)

/- THE SECOND FORM. 'bulk': how many values and letters a reading holds, each counted each time it is reached (what is shared counts as often as it is met; a slice's spare places count too). A statement '..UptoSaid' is the law's where the arguments, and the package variables that the reading takes, are together of bulk at most 1048576: NARROWER than '..Said'. Prove '..Said' where nothing that the law and all that it calls make is longer than what came in: it says more and counts as full. Else prove '..UptoSaid'. A law counts once. -/
mutual
def uptoBulk {H : Type} : DataW H → Nat
  | .lit (.string bytes) => bytes.length + 1
  | .lit _ => 1
  | .nil => 1
  | .ptr d => uptoBulk d + 1
  | .slice elems spare => uptoBulkAll elems + uptoBulkAll spare + 1
  | .agg parts => uptoBulkAll parts + 1
  | .iface _ d => uptoBulk d + 1
  | .map entries => uptoBulkEntries entries + 1
  | .held _ => 1
def uptoBulkAll {H : Type} : List (DataW H) → Nat
  | [] => 0
  | d :: r => uptoBulk d + uptoBulkAll r
def uptoBulkEntries {H : Type} : List (Lit × DataW H) → Nat
  | [] => 0
  | x :: r => uptoBulkEntry x + uptoBulkEntries r
def uptoBulkEntry {H : Type} : Lit × DataW H → Nat
  | (.string bytes, d) => bytes.length + uptoBulk d + 1
  | (_, d) => uptoBulk d + 1
 end
def uptoSmall : (H : Type) → List (DataW H) → Bool := fun _ ds => decide (uptoBulkAll ds ≤ 1048576)
def OpenSpec.upto (s : _root_.Go.ChangeSpec) : _root_.Go.OpenSpec := { _root_.Go.OpenSpec.ofChange s with cond := some uptoSmall }

/-- 'cubbyholelaw18.VictimOrders', WHERE WHAT IT READS IS OF BULK AT MOST 1048576: true; the input reads as it did. -/
def victimOrdersUptoRow : OpenClaim := { program := "yteibleghnadelaa", sum := "a64831ef7e99791142e125dc73695c48e8339ea2f118d298dfdea9f60afb46f9", func := "cubbyhole/cubbyholelaw18.VictimOrders", spec := "victimOrders", unfollowed := true, recurses := true, apart := false, narrowed := true }
def VictimOrdersUptoSaid : Prop := victimOrdersUptoRow.holds Try.pinned (OpenSpec.upto victimOrdersSpec)

/-- 'cubbyholelaw18.VictimChooses', WHERE WHAT IT READS IS OF BULK AT MOST 1048576: true; the input reads as it did. -/
def victimChoosesUptoRow : OpenClaim := { program := "yteibleghnadelaa", sum := "a64831ef7e99791142e125dc73695c48e8339ea2f118d298dfdea9f60afb46f9", func := "cubbyhole/cubbyholelaw18.VictimChooses", spec := "victimChooses", unfollowed := true, recurses := true, apart := false, narrowed := true }
def VictimChoosesUptoSaid : Prop := victimChoosesUptoRow.holds Try.pinned (OpenSpec.upto victimChoosesSpec)

/-- 'cubbyholelaw18.VictimChecks', WHERE WHAT IT READS IS OF BULK AT MOST 1048576: true; the input reads as it did. -/
def victimChecksUptoRow : OpenClaim := { program := "yteibleghnadelaa", sum := "a64831ef7e99791142e125dc73695c48e8339ea2f118d298dfdea9f60afb46f9", func := "cubbyhole/cubbyholelaw18.VictimChecks", spec := "victimChecks", unfollowed := true, recurses := true, apart := false, narrowed := true }
def VictimChecksUptoSaid : Prop := victimChecksUptoRow.holds Try.pinned (OpenSpec.upto victimChecksSpec)

/-- 'cubbyholelaw18.VictimHolds', WHERE WHAT IT READS IS OF BULK AT MOST 1048576: true; the input reads as it did. -/
def victimHoldsUptoRow : OpenClaim := { program := "yteibleghnadelaa", sum := "a64831ef7e99791142e125dc73695c48e8339ea2f118d298dfdea9f60afb46f9", func := "cubbyhole/cubbyholelaw18.VictimHolds", spec := "victimHolds", unfollowed := true, recurses := true, apart := false, narrowed := true }
def VictimHoldsUptoSaid : Prop := victimHoldsUptoRow.holds Try.pinned (OpenSpec.upto victimHoldsSpec)

end Rows
end Go.Proofs.Yteibleghnadelaa
