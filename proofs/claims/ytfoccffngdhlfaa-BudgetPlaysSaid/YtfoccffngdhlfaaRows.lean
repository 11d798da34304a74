/-
  No cell of these rows narrows 'for every input' (looked for: loops, veiled, ifaces, maps, wideKeys, modest, calm, conditions, laid).
  DERIVED. THE GIVEN ROWS OF THIS SEAT. 6 by the template 'for every input the law returns true; each argument reads behind the call as it read before'; 0 by the template 'total and deterministic' (their statements: YtfoccffngdhlfaaTotals.lean).
  GIVEN WITH THE SEED: the statements are not yours to turn. If you find one false, say at which input.
  Laid BY PROGRAM, IN A SANDBOX (cutbox-rows.mjs): the forced cells as the released guide's own fill.sh prints them over the translation 7fdff54cb398eda8… (all of the seat's roots in one cut). By AI agents, Wed Nov 11 2026. No macro, syntax, notation, axiom, sorry.
-/
import Derived.Test.YtfoccffngdhlfaaChecked
import GoSem.Claim
import GoSem.ClaimJoined
import GoSem.ClaimMapViews
import Derived.JoinedTies
import Derived.KernelRfl
namespace Go.Proofs.Ytfoccffngdhlfaa
/- THE CELL 'sum', in the pinned program and in every row, IS THE sha256 OF THE DUMP (.gsa) THAT YtfoccffngdhlfaaProg.lean LOADS. Nothing in Lean hashes anything: it is a label: what it is worth is what the hold of that sum in a sandbox is worth. -/
noncomputable def Try.pinned : Pinned := { name := "ytfoccffngdhlfaa", sum := "7fdff54cb398eda8655c56d5b05986c06602f212a338d6e52980651ac5e0c4a0", checked := Try.checked }
namespace Rows
def none {H : Type} : Left H := { results := [], args := [] }

/-- 'cubbyholelaw17.BudgetParts': WHATEVER THE INPUT: true; the input reads as it did. -/
def budgetPartsSpec : ChangeSpec := { name := "budgetParts", fn := fun _ => fun
  | [d1, d2] => { results := [.lit (.bool true)], args := [d1, d2] }
  | _ => none }
def budgetPartsRow : OpenClaim := { program := "ytfoccffngdhlfaa", sum := "7fdff54cb398eda8655c56d5b05986c06602f212a338d6e52980651ac5e0c4a0", func := "cubbyhole/cubbyholelaw17.BudgetParts", spec := "budgetParts", apart := false }
def BudgetPartsSaid : Prop := budgetPartsRow.holds Try.pinned (OpenSpec.ofChange budgetPartsSpec)

/-- ITS FALSE NEIGHBOUR: 'it returns false'. Refute it at one input. -/
def budgetPartsWrong : ChangeSpec := { name := "budgetParts", fn := fun _ => fun
  | [d1, d2] => { results := [.lit (.bool false)], args := [d1, d2] }
  | _ => none }
def BudgetPartsWrongFalsely : Prop := budgetPartsRow.holds Try.pinned (OpenSpec.ofChange budgetPartsWrong)

/-- 'cubbyholelaw17.BudgetFull': WHATEVER THE INPUT: true; the input reads as it did. -/
def budgetFullSpec : ChangeSpec := { name := "budgetFull", fn := fun _ => fun
  | [d1, d2] => { results := [.lit (.bool true)], args := [d1, d2] }
  | _ => none }
def budgetFullRow : OpenClaim := { program := "ytfoccffngdhlfaa", sum := "7fdff54cb398eda8655c56d5b05986c06602f212a338d6e52980651ac5e0c4a0", func := "cubbyhole/cubbyholelaw17.BudgetFull", spec := "budgetFull", apart := false }
def BudgetFullSaid : Prop := budgetFullRow.holds Try.pinned (OpenSpec.ofChange budgetFullSpec)

/-- ITS FALSE NEIGHBOUR: 'it returns false'. Refute it at one input. -/
def budgetFullWrong : ChangeSpec := { name := "budgetFull", fn := fun _ => fun
  | [d1, d2] => { results := [.lit (.bool false)], args := [d1, d2] }
  | _ => none }
def BudgetFullWrongFalsely : Prop := budgetFullRow.holds Try.pinned (OpenSpec.ofChange budgetFullWrong)

/-- 'cubbyholelaw17.BudgetHolds': WHATEVER THE INPUT: true; the input reads as it did. -/
def budgetHoldsSpec : ChangeSpec := { name := "budgetHolds", fn := fun _ => fun
  | [d1, d2, d3, d4, d5] => { results := [.lit (.bool true)], args := [d1, d2, d3, d4, d5] }
  | _ => none }
def budgetHoldsRow : OpenClaim := { program := "ytfoccffngdhlfaa", sum := "7fdff54cb398eda8655c56d5b05986c06602f212a338d6e52980651ac5e0c4a0", func := "cubbyhole/cubbyholelaw17.BudgetHolds", spec := "budgetHolds", apart := false }
def BudgetHoldsSaid : Prop := budgetHoldsRow.holds Try.pinned (OpenSpec.ofChange budgetHoldsSpec)

/-- ITS FALSE NEIGHBOUR: 'it returns false'. Refute it at one input. -/
def budgetHoldsWrong : ChangeSpec := { name := "budgetHolds", fn := fun _ => fun
  | [d1, d2, d3, d4, d5] => { results := [.lit (.bool false)], args := [d1, d2, d3, d4, d5] }
  | _ => none }
def BudgetHoldsWrongFalsely : Prop := budgetHoldsRow.holds Try.pinned (OpenSpec.ofChange budgetHoldsWrong)

/-- 'cubbyholelaw17.BudgetNew': WHATEVER THE INPUT: true; the input reads as it did. -/
def budgetNewSpec : ChangeSpec := { name := "budgetNew", fn := fun _ => fun
  | [d1, d2] => { results := [.lit (.bool true)], args := [d1, d2] }
  | _ => none }
def budgetNewRow : OpenClaim := { program := "ytfoccffngdhlfaa", sum := "7fdff54cb398eda8655c56d5b05986c06602f212a338d6e52980651ac5e0c4a0", func := "cubbyhole/cubbyholelaw17.BudgetNew", spec := "budgetNew", apart := false }
def BudgetNewSaid : Prop := budgetNewRow.holds Try.pinned (OpenSpec.ofChange budgetNewSpec)

/-- ITS FALSE NEIGHBOUR: 'it returns false'. Refute it at one input. -/
def budgetNewWrong : ChangeSpec := { name := "budgetNew", fn := fun _ => fun
  | [d1, d2] => { results := [.lit (.bool false)], args := [d1, d2] }
  | _ => none }
def BudgetNewWrongFalsely : Prop := budgetNewRow.holds Try.pinned (OpenSpec.ofChange budgetNewWrong)

/-- 'cubbyholelaw17.BudgetPlays': WHATEVER THE INPUT: true; the input reads as it did. -/
def budgetPlaysSpec : ChangeSpec := { name := "budgetPlays", fn := fun _ => fun
  | [d1, d2, d3] => { results := [.lit (.bool true)], args := [d1, d2, d3] }
  | _ => none }
def budgetPlaysRow : OpenClaim := { program := "ytfoccffngdhlfaa", sum := "7fdff54cb398eda8655c56d5b05986c06602f212a338d6e52980651ac5e0c4a0", func := "cubbyhole/cubbyholelaw17.BudgetPlays", spec := "budgetPlays", apart := false }
def BudgetPlaysSaid : Prop := budgetPlaysRow.holds Try.pinned (OpenSpec.ofChange budgetPlaysSpec)

/-- ITS FALSE NEIGHBOUR: 'it returns false'. Refute it at one input. -/
def budgetPlaysWrong : ChangeSpec := { name := "budgetPlays", fn := fun _ => fun
  | [d1, d2, d3] => { results := [.lit (.bool false)], args := [d1, d2, d3] }
  | _ => none }
def BudgetPlaysWrongFalsely : Prop := budgetPlaysRow.holds Try.pinned (OpenSpec.ofChange budgetPlaysWrong)

/-- 'cubbyholelaw17.BudgetNil': WHATEVER THE INPUT: true; the input reads as it did. -/
def budgetNilSpec : ChangeSpec := { name := "budgetNil", fn := fun _ => fun
  | [d1, d2] => { results := [.lit (.bool true)], args := [d1, d2] }
  | _ => none }
def budgetNilRow : OpenClaim := { program := "ytfoccffngdhlfaa", sum := "7fdff54cb398eda8655c56d5b05986c06602f212a338d6e52980651ac5e0c4a0", func := "cubbyhole/cubbyholelaw17.BudgetNil", spec := "budgetNil", apart := false }
def BudgetNilSaid : Prop := budgetNilRow.holds Try.pinned (OpenSpec.ofChange budgetNilSpec)

/-- ITS FALSE NEIGHBOUR: 'it returns false'. Refute it at one input. -/
def budgetNilWrong : ChangeSpec := { name := "budgetNil", fn := fun _ => fun
  | [d1, d2] => { results := [.lit (.bool false)], args := [d1, d2] }
  | _ => none }
def BudgetNilWrongFalsely : Prop := budgetNilRow.holds Try.pinned (OpenSpec.ofChange budgetNilWrong)

/- THE SECOND FORM. 'bulk': how many values and letters a reading holds, each counted each time it is reached (what is shared counts as often as it is met; a slice's spare places count too). A statement '..UptoSaid' is the law's where the arguments, and the package variables that the reading takes, are together of bulk at most 1048576: NARROWER than '..Said'. Prove '..Said' where nothing that the law and all that it calls make is longer than what came in: it says more and counts as full. Else prove '..UptoSaid'. A law counts once. -/
mutual
def uptoBulk {H : Type} : DataW H → Nat
  | .lit (.string bytes) => bytes.length + 1
  | .lit _ => 1
  | .nil => 1
  | .ptr d => uptoBulk d + 1
  | .slice elems spare => uptoBulkAll elems + uptoBulkAll spare + 1
  | .agg parts => uptoBulkAll parts + 1
  | .iface _ d => uptoBulk d + 1
  | .map entries => uptoBulkEntries entries + 1
  | .held _ => 1
def uptoBulkAll {H : Type} : List (DataW H) → Nat
  | [] => 0
  | d :: r => uptoBulk d + uptoBulkAll r
def uptoBulkEntries {H : Type} : List (Lit × DataW H) → Nat
  | [] => 0
  | x :: r => uptoBulkEntry x + uptoBulkEntries r
def uptoBulkEntry {H : Type} : Lit × DataW H → Nat
  | (.string bytes, d) => bytes.length + uptoBulk d + 1
  | (_, d) => uptoBulk d + 1
 end
def uptoSmall : (H : Type) → List (DataW H) → Bool := fun _ ds => decide (uptoBulkAll ds ≤ 1048576)
def OpenSpec.upto (s : _root_.Go.ChangeSpec) : _root_.Go.OpenSpec := { _root_.Go.OpenSpec.ofChange s with cond := some uptoSmall }

/-- 'cubbyholelaw17.BudgetParts', WHERE WHAT IT READS IS OF BULK AT MOST 1048576: true; the input reads as it did. -/
def budgetPartsUptoRow : OpenClaim := { program := "ytfoccffngdhlfaa", sum := "7fdff54cb398eda8655c56d5b05986c06602f212a338d6e52980651ac5e0c4a0", func := "cubbyhole/cubbyholelaw17.BudgetParts", spec := "budgetParts", apart := false, narrowed := true }
def BudgetPartsUptoSaid : Prop := budgetPartsUptoRow.holds Try.pinned (OpenSpec.upto budgetPartsSpec)

/-- 'cubbyholelaw17.BudgetFull', WHERE WHAT IT READS IS OF BULK AT MOST 1048576: true; the input reads as it did. -/
def budgetFullUptoRow : OpenClaim := { program := "ytfoccffngdhlfaa", sum := "7fdff54cb398eda8655c56d5b05986c06602f212a338d6e52980651ac5e0c4a0", func := "cubbyhole/cubbyholelaw17.BudgetFull", spec := "budgetFull", apart := false, narrowed := true }
def BudgetFullUptoSaid : Prop := budgetFullUptoRow.holds Try.pinned (OpenSpec.upto budgetFullSpec)

/-- 'cubbyholelaw17.BudgetHolds', WHERE WHAT IT READS IS OF BULK AT MOST 1048576: true; the input reads as it did. -/
def budgetHoldsUptoRow : OpenClaim := { program := "ytfoccffngdhlfaa", sum := "7fdff54cb398eda8655c56d5b05986c06602f212a338d6e52980651ac5e0c4a0", func := "cubbyhole/cubbyholelaw17.BudgetHolds", spec := "budgetHolds", apart := false, narrowed := true }
def BudgetHoldsUptoSaid : Prop := budgetHoldsUptoRow.holds Try.pinned (OpenSpec.upto budgetHoldsSpec)

/-- 'cubbyholelaw17.BudgetNew', WHERE WHAT IT READS IS OF BULK AT MOST 1048576: true; the input reads as it did. -/
def budgetNewUptoRow : OpenClaim := { program := "ytfoccffngdhlfaa", sum := "7fdff54cb398eda8655c56d5b05986c06602f212a338d6e52980651ac5e0c4a0", func := "cubbyhole/cubbyholelaw17.BudgetNew", spec := "budgetNew", apart := false, narrowed := true }
def BudgetNewUptoSaid : Prop := budgetNewUptoRow.holds Try.pinned (OpenSpec.upto budgetNewSpec)

/-- 'cubbyholelaw17.BudgetPlays', WHERE WHAT IT READS IS OF BULK AT MOST 1048576: true; the input reads as it did. -/
def budgetPlaysUptoRow : OpenClaim := { program := "ytfoccffngdhlfaa", sum := "7fdff54cb398eda8655c56d5b05986c06602f212a338d6e52980651ac5e0c4a0", func := "cubbyhole/cubbyholelaw17.BudgetPlays", spec := "budgetPlays", apart := false, narrowed := true }
def BudgetPlaysUptoSaid : Prop := budgetPlaysUptoRow.holds Try.pinned (OpenSpec.upto budgetPlaysSpec)

/-- 'cubbyholelaw17.BudgetNil', WHERE WHAT IT READS IS OF BULK AT MOST 1048576: true; the input reads as it did. -/
def budgetNilUptoRow : OpenClaim := { program := "ytfoccffngdhlfaa", sum := "7fdff54cb398eda8655c56d5b05986c06602f212a338d6e52980651ac5e0c4a0", func := "cubbyhole/cubbyholelaw17.BudgetNil", spec := "budgetNil", apart := false, narrowed := true }
def BudgetNilUptoSaid : Prop := budgetNilUptoRow.holds Try.pinned (OpenSpec.upto budgetNilSpec)

end Rows
end Go.Proofs.Ytfoccffngdhlfaa
