/-
  No cell of these rows narrows 'for every input' (looked for: loops, veiled, ifaces, maps, wideKeys, modest, calm, conditions, laid).
  DERIVED. THE GIVEN ROWS OF THIS SEAT. 5 by the template 'for every input the law returns true; each argument reads behind the call as it read before'; 0 by the template 'total and deterministic' (their statements: YtbjhpefnonnkmaaTotals.lean).
  GIVEN WITH THE SEED: the statements are not yours to turn. If you find one false, say at which input.
  Laid BY PROGRAM, IN A SANDBOX (cutbox-rows.mjs): the forced cells as the released guide's own fill.sh prints them over the translation 02623ca30e825a32… (all of the seat's roots in one cut). By AI agents, Wed Nov 11 2026. No macro, syntax, notation, axiom, sorry.
-/
import Derived.Test.YtbjhpefnonnkmaaChecked
import GoSem.Claim
import GoSem.ClaimJoined
import GoSem.ClaimMapViews
import Derived.JoinedTies
import Derived.KernelRfl
namespace Go.Proofs.Ytbjhpefnonnkmaa
/- THE CELL 'sum', in the pinned program and in every row, IS THE sha256 OF THE DUMP (.gsa) THAT YtbjhpefnonnkmaaProg.lean LOADS. Nothing in Lean hashes anything: it is a label: what it is worth is what the hold of that sum in a sandbox is worth. -/
noncomputable def Try.pinned : Pinned := { name := "ytbjhpefnonnkmaa", sum := "02623ca30e825a3225568650d4a23d4a56c7f58b91623a144ca6fcceaf9bede3", checked := Try.checked }
namespace Rows
def none {H : Type} : Left H := { results := [], args := [] }

/-- 'cubbyholelaw31.SecondHolds': WHATEVER THE INPUT: true; the input reads as it did. -/
def secondHoldsSpec : ChangeSpec := { name := "secondHolds", fn := fun _ => fun
  | [d1, d2] => { results := [.lit (.bool true)], args := [d1, d2] }
  | _ => none }
def secondHoldsRow : OpenClaim := { program := "ytbjhpefnonnkmaa", sum := "02623ca30e825a3225568650d4a23d4a56c7f58b91623a144ca6fcceaf9bede3", func := "cubbyhole/cubbyholelaw31.SecondHolds", spec := "secondHolds", unfollowed := true, recurses := true, apart := false }
def SecondHoldsSaid : Prop := secondHoldsRow.holds Try.pinned (OpenSpec.ofChange secondHoldsSpec)

/-- ITS FALSE NEIGHBOUR: 'it returns false'. Refute it at one input. -/
def secondHoldsWrong : ChangeSpec := { name := "secondHolds", fn := fun _ => fun
  | [d1, d2] => { results := [.lit (.bool false)], args := [d1, d2] }
  | _ => none }
def SecondHoldsWrongFalsely : Prop := secondHoldsRow.holds Try.pinned (OpenSpec.ofChange secondHoldsWrong)

/-- 'cubbyholelaw31.SecondNew': WHATEVER THE INPUT: true; the input reads as it did. -/
def secondNewSpec : ChangeSpec := { name := "secondNew", fn := fun _ => fun
  | [d] => { results := [.lit (.bool true)], args := [d] }
  | _ => none }
def secondNewRow : OpenClaim := { program := "ytbjhpefnonnkmaa", sum := "02623ca30e825a3225568650d4a23d4a56c7f58b91623a144ca6fcceaf9bede3", func := "cubbyhole/cubbyholelaw31.SecondNew", spec := "secondNew", unfollowed := true, recurses := true, apart := false }
def SecondNewSaid : Prop := secondNewRow.holds Try.pinned (OpenSpec.ofChange secondNewSpec)

/-- ITS FALSE NEIGHBOUR: 'it returns false'. Refute it at one input. -/
def secondNewWrong : ChangeSpec := { name := "secondNew", fn := fun _ => fun
  | [d] => { results := [.lit (.bool false)], args := [d] }
  | _ => none }
def SecondNewWrongFalsely : Prop := secondNewRow.holds Try.pinned (OpenSpec.ofChange secondNewWrong)

/-- 'cubbyholelaw31.SecondPlays': WHATEVER THE INPUT: true; the input reads as it did. -/
def secondPlaysSpec : ChangeSpec := { name := "secondPlays", fn := fun _ => fun
  | [d1, d2] => { results := [.lit (.bool true)], args := [d1, d2] }
  | _ => none }
def secondPlaysRow : OpenClaim := { program := "ytbjhpefnonnkmaa", sum := "02623ca30e825a3225568650d4a23d4a56c7f58b91623a144ca6fcceaf9bede3", func := "cubbyhole/cubbyholelaw31.SecondPlays", spec := "secondPlays", inPlace := ["maps.clone"], unfollowed := true, recurses := true, apart := false }
def SecondPlaysSaid : Prop := secondPlaysRow.holds Try.pinned (OpenSpec.ofChange secondPlaysSpec)

/-- ITS FALSE NEIGHBOUR: 'it returns false'. Refute it at one input. -/
def secondPlaysWrong : ChangeSpec := { name := "secondPlays", fn := fun _ => fun
  | [d1, d2] => { results := [.lit (.bool false)], args := [d1, d2] }
  | _ => none }
def SecondPlaysWrongFalsely : Prop := secondPlaysRow.holds Try.pinned (OpenSpec.ofChange secondPlaysWrong)

/-- 'cubbyholelaw31.SecondOwn': WHATEVER THE INPUT: true; the input reads as it did. -/
def secondOwnSpec : ChangeSpec := { name := "secondOwn", fn := fun _ => fun
  | [d1, d2] => { results := [.lit (.bool true)], args := [d1, d2] }
  | _ => none }
def secondOwnRow : OpenClaim := { program := "ytbjhpefnonnkmaa", sum := "02623ca30e825a3225568650d4a23d4a56c7f58b91623a144ca6fcceaf9bede3", func := "cubbyhole/cubbyholelaw31.SecondOwn", spec := "secondOwn", inPlace := ["maps.clone"], unfollowed := true, recurses := true, apart := false }
def SecondOwnSaid : Prop := secondOwnRow.holds Try.pinned (OpenSpec.ofChange secondOwnSpec)

/-- ITS FALSE NEIGHBOUR: 'it returns false'. Refute it at one input. -/
def secondOwnWrong : ChangeSpec := { name := "secondOwn", fn := fun _ => fun
  | [d1, d2] => { results := [.lit (.bool false)], args := [d1, d2] }
  | _ => none }
def SecondOwnWrongFalsely : Prop := secondOwnRow.holds Try.pinned (OpenSpec.ofChange secondOwnWrong)

/-- 'cubbyholelaw31.SecondNone': WHATEVER THE INPUT: true; the input reads as it did. -/
def secondNoneSpec : ChangeSpec := { name := "secondNone", fn := fun _ => fun
  | [d] => { results := [.lit (.bool true)], args := [d] }
  | _ => none }
def secondNoneRow : OpenClaim := { program := "ytbjhpefnonnkmaa", sum := "02623ca30e825a3225568650d4a23d4a56c7f58b91623a144ca6fcceaf9bede3", func := "cubbyhole/cubbyholelaw31.SecondNone", spec := "secondNone", inPlace := ["maps.clone"], unfollowed := true, recurses := true, apart := false }
def SecondNoneSaid : Prop := secondNoneRow.holds Try.pinned (OpenSpec.ofChange secondNoneSpec)

/-- ITS FALSE NEIGHBOUR: 'it returns false'. Refute it at one input. -/
def secondNoneWrong : ChangeSpec := { name := "secondNone", fn := fun _ => fun
  | [d] => { results := [.lit (.bool false)], args := [d] }
  | _ => none }
def SecondNoneWrongFalsely : Prop := secondNoneRow.holds Try.pinned (OpenSpec.ofChange secondNoneWrong)

/- THE SECOND FORM. 'bulk': how many values and letters a reading holds, each counted each time it is reached (what is shared counts as often as it is met; a slice's spare places count too). A statement '..UptoSaid' is the law's where the arguments, and the package variables that the reading takes, are together of bulk at most 1048576: NARROWER than '..Said'. Prove '..Said' where nothing that the law and all that it calls make is longer than what came in: it says more and counts as full. Else prove '..UptoSaid'. A law counts once. -/
mutual
def uptoBulk {H : Type} : DataW H → Nat
  | .lit (.string bytes) => bytes.length + 1
  | .lit _ => 1
  | .nil => 1
  | .ptr d => uptoBulk d + 1
  | .slice elems spare => uptoBulkAll elems + uptoBulkAll spare + 1
  | .agg parts => uptoBulkAll parts + 1
  | .iface _ d => uptoBulk d + 1
  | .map entries => uptoBulkEntries entries + 1
  | .held _ => 1
def uptoBulkAll {H : Type} : List (DataW H) → Nat
  | [] => 0
  | d :: r => uptoBulk d + uptoBulkAll r
def uptoBulkEntries {H : Type} : List (Lit × DataW H) → Nat
  | [] => 0
  | x :: r => uptoBulkEntry x + uptoBulkEntries r
def uptoBulkEntry {H : Type} : Lit × DataW H → Nat
  | (.string bytes, d) => bytes.length + uptoBulk d + 1
  | (_, d) => uptoBulk d + 1
 end
def uptoSmall : (H : Type) → List (DataW H) → Bool := fun _ ds => decide (uptoBulkAll ds ≤ 1048576)
def OpenSpec.upto (s : _root_.Go.ChangeSpec) : _root_.Go.OpenSpec := { _root_.Go.OpenSpec.ofChange s with cond := some uptoSmall }

/-- 'cubbyholelaw31.SecondHolds', WHERE WHAT IT READS IS OF BULK AT MOST 1048576: true; the input reads as it did. -/
def secondHoldsUptoRow : OpenClaim := { program := "ytbjhpefnonnkmaa", sum := "02623ca30e825a3225568650d4a23d4a56c7f58b91623a144ca6fcceaf9bede3", func := "cubbyhole/cubbyholelaw31.SecondHolds", spec := "secondHolds", unfollowed := true, recurses := true, apart := false, narrowed := true }
def SecondHoldsUptoSaid : Prop := secondHoldsUptoRow.holds Try.pinned (OpenSpec.upto secondHoldsSpec)

/-- 'cubbyholelaw31.SecondNew', WHERE WHAT IT READS IS OF BULK AT MOST 1048576: true; the input reads as it did. -/
def secondNewUptoRow : OpenClaim := { program := "ytbjhpefnonnkmaa", sum := "02623ca30e825a3225568650d4a23d4a56c7f58b91623a144ca6fcceaf9bede3", func := "cubbyhole/cubbyholelaw31.SecondNew", spec := "secondNew", unfollowed := true, recurses := true, apart := false, narrowed := true }
def SecondNewUptoSaid : Prop := secondNewUptoRow.holds Try.pinned (OpenSpec.upto secondNewSpec)

/-- 'cubbyholelaw31.SecondPlays', WHERE WHAT IT READS IS OF BULK AT MOST 1048576: true; the input reads as it did. -/
def secondPlaysUptoRow : OpenClaim := { program := "ytbjhpefnonnkmaa", sum := "02623ca30e825a3225568650d4a23d4a56c7f58b91623a144ca6fcceaf9bede3", func := "cubbyhole/cubbyholelaw31.SecondPlays", spec := "secondPlays", inPlace := ["maps.clone"], unfollowed := true, recurses := true, apart := false, narrowed := true }
def SecondPlaysUptoSaid : Prop := secondPlaysUptoRow.holds Try.pinned (OpenSpec.upto secondPlaysSpec)

/-- 'cubbyholelaw31.SecondOwn', WHERE WHAT IT READS IS OF BULK AT MOST 1048576: true; the input reads as it did. -/
def secondOwnUptoRow : OpenClaim := { program := "ytbjhpefnonnkmaa", sum := "02623ca30e825a3225568650d4a23d4a56c7f58b91623a144ca6fcceaf9bede3", func := "cubbyhole/cubbyholelaw31.SecondOwn", spec := "secondOwn", inPlace := ["maps.clone"], unfollowed := true, recurses := true, apart := false, narrowed := true }
def SecondOwnUptoSaid : Prop := secondOwnUptoRow.holds Try.pinned (OpenSpec.upto secondOwnSpec)

/-- 'cubbyholelaw31.SecondNone', WHERE WHAT IT READS IS OF BULK AT MOST 1048576: true; the input reads as it did. -/
def secondNoneUptoRow : OpenClaim := { program := "ytbjhpefnonnkmaa", sum := "02623ca30e825a3225568650d4a23d4a56c7f58b91623a144ca6fcceaf9bede3", func := "cubbyhole/cubbyholelaw31.SecondNone", spec := "secondNone", inPlace := ["maps.clone"], unfollowed := true, recurses := true, apart := false, narrowed := true }
def SecondNoneUptoSaid : Prop := secondNoneUptoRow.holds Try.pinned (OpenSpec.upto secondNoneSpec)

end Rows
end Go.Proofs.Ytbjhpefnonnkmaa
