/-
  No cell of these rows narrows 'for every input' (looked for: loops, veiled, ifaces, maps, wideKeys, modest, calm, conditions, laid).
  DERIVED. THE GIVEN ROWS OF THIS SEAT. 6 by the template 'for every input the law returns true; each argument reads behind the call as it read before'; 0 by the template 'total and deterministic' (their statements: YtihgidkkdjmlkaaTotals.lean).
  GIVEN WITH THE SEED: the statements are not yours to turn. If you find one false, say at which input.
  Laid BY PROGRAM, IN A SANDBOX (cutbox-rows.mjs): the forced cells as the released guide's own fill.sh prints them over the translation ab486d272e38d06c… (all of the seat's roots in one cut). By AI agents, Wed Nov 11 2026. No macro, syntax, notation, axiom, sorry.
-/
import Derived.Test.YtihgidkkdjmlkaaChecked
import GoSem.Claim
import GoSem.ClaimJoined
import GoSem.ClaimMapViews
import Derived.JoinedTies
import Derived.KernelRfl
namespace Go.Proofs.Ytihgidkkdjmlkaa
/- THE CELL 'sum', in the pinned program and in every row, IS THE sha256 OF THE DUMP (.gsa) THAT YtihgidkkdjmlkaaProg.lean LOADS. Nothing in Lean hashes anything: it is a label: what it is worth is what the hold of that sum in a sandbox is worth. -/
noncomputable def Try.pinned : Pinned := { name := "ytihgidkkdjmlkaa", sum := "ab486d272e38d06c9cb47a0d0e542cb3e238e6d7e880a72d8e934ad0238d6069", checked := Try.checked }
namespace Rows
def none {H : Type} : Left H := { results := [], args := [] }

/-- 'cubbyholelaw34.BloomNew': WHATEVER THE INPUT: true; the input reads as it did. -/
def bloomNewSpec : ChangeSpec := { name := "bloomNew", fn := fun _ => fun
  | [d1, d2, d3] => { results := [.lit (.bool true)], args := [d1, d2, d3] }
  | _ => none }
def bloomNewRow : OpenClaim := { program := "ytihgidkkdjmlkaa", sum := "ab486d272e38d06c9cb47a0d0e542cb3e238e6d7e880a72d8e934ad0238d6069", func := "cubbyhole/cubbyholelaw34.BloomNew", spec := "bloomNew", unfollowed := true, recurses := true, apart := false }
def BloomNewSaid : Prop := bloomNewRow.holds Try.pinned (OpenSpec.ofChange bloomNewSpec)

/-- ITS FALSE NEIGHBOUR: 'it returns false'. Refute it at one input. -/
def bloomNewWrong : ChangeSpec := { name := "bloomNew", fn := fun _ => fun
  | [d1, d2, d3] => { results := [.lit (.bool false)], args := [d1, d2, d3] }
  | _ => none }
def BloomNewWrongFalsely : Prop := bloomNewRow.holds Try.pinned (OpenSpec.ofChange bloomNewWrong)

/-- 'cubbyholelaw34.BloomPlaces': WHATEVER THE INPUT: true; the input reads as it did. -/
def bloomPlacesSpec : ChangeSpec := { name := "bloomPlaces", fn := fun _ => fun
  | [d1, d2, d3, d4] => { results := [.lit (.bool true)], args := [d1, d2, d3, d4] }
  | _ => none }
def bloomPlacesRow : OpenClaim := { program := "ytihgidkkdjmlkaa", sum := "ab486d272e38d06c9cb47a0d0e542cb3e238e6d7e880a72d8e934ad0238d6069", func := "cubbyhole/cubbyholelaw34.BloomPlaces", spec := "bloomPlaces", unfollowed := true, recurses := true, apart := false }
def BloomPlacesSaid : Prop := bloomPlacesRow.holds Try.pinned (OpenSpec.ofChange bloomPlacesSpec)

/-- ITS FALSE NEIGHBOUR: 'it returns false'. Refute it at one input. -/
def bloomPlacesWrong : ChangeSpec := { name := "bloomPlaces", fn := fun _ => fun
  | [d1, d2, d3, d4] => { results := [.lit (.bool false)], args := [d1, d2, d3, d4] }
  | _ => none }
def BloomPlacesWrongFalsely : Prop := bloomPlacesRow.holds Try.pinned (OpenSpec.ofChange bloomPlacesWrong)

/-- 'cubbyholelaw34.BloomJoins': WHATEVER THE INPUT: true; the input reads as it did. -/
def bloomJoinsSpec : ChangeSpec := { name := "bloomJoins", fn := fun _ => fun
  | [d1, d2, d3, d4, d5, d6, d7, d8] => { results := [.lit (.bool true)], args := [d1, d2, d3, d4, d5, d6, d7, d8] }
  | _ => none }
def bloomJoinsRow : OpenClaim := { program := "ytihgidkkdjmlkaa", sum := "ab486d272e38d06c9cb47a0d0e542cb3e238e6d7e880a72d8e934ad0238d6069", func := "cubbyhole/cubbyholelaw34.BloomJoins", spec := "bloomJoins", unfollowed := true, recurses := true, apart := false }
def BloomJoinsSaid : Prop := bloomJoinsRow.holds Try.pinned (OpenSpec.ofChange bloomJoinsSpec)

/-- ITS FALSE NEIGHBOUR: 'it returns false'. Refute it at one input. -/
def bloomJoinsWrong : ChangeSpec := { name := "bloomJoins", fn := fun _ => fun
  | [d1, d2, d3, d4, d5, d6, d7, d8] => { results := [.lit (.bool false)], args := [d1, d2, d3, d4, d5, d6, d7, d8] }
  | _ => none }
def BloomJoinsWrongFalsely : Prop := bloomJoinsRow.holds Try.pinned (OpenSpec.ofChange bloomJoinsWrong)

/-- 'cubbyholelaw34.BloomHolds': WHATEVER THE INPUT: true; the input reads as it did. -/
def bloomHoldsSpec : ChangeSpec := { name := "bloomHolds", fn := fun _ => fun
  | [d1, d2, d3, d4, d5] => { results := [.lit (.bool true)], args := [d1, d2, d3, d4, d5] }
  | _ => none }
def bloomHoldsRow : OpenClaim := { program := "ytihgidkkdjmlkaa", sum := "ab486d272e38d06c9cb47a0d0e542cb3e238e6d7e880a72d8e934ad0238d6069", func := "cubbyhole/cubbyholelaw34.BloomHolds", spec := "bloomHolds", unfollowed := true, recurses := true, apart := false }
def BloomHoldsSaid : Prop := bloomHoldsRow.holds Try.pinned (OpenSpec.ofChange bloomHoldsSpec)

/-- ITS FALSE NEIGHBOUR: 'it returns false'. Refute it at one input. -/
def bloomHoldsWrong : ChangeSpec := { name := "bloomHolds", fn := fun _ => fun
  | [d1, d2, d3, d4, d5] => { results := [.lit (.bool false)], args := [d1, d2, d3, d4, d5] }
  | _ => none }
def BloomHoldsWrongFalsely : Prop := bloomHoldsRow.holds Try.pinned (OpenSpec.ofChange bloomHoldsWrong)

/-- 'cubbyholelaw34.BloomPlays': WHATEVER THE INPUT: true; the input reads as it did. -/
def bloomPlaysSpec : ChangeSpec := { name := "bloomPlays", fn := fun _ => fun
  | [d1, d2, d3, d4] => { results := [.lit (.bool true)], args := [d1, d2, d3, d4] }
  | _ => none }
def bloomPlaysRow : OpenClaim := { program := "ytihgidkkdjmlkaa", sum := "ab486d272e38d06c9cb47a0d0e542cb3e238e6d7e880a72d8e934ad0238d6069", func := "cubbyhole/cubbyholelaw34.BloomPlays", spec := "bloomPlays", unfollowed := true, recurses := true, apart := false }
def BloomPlaysSaid : Prop := bloomPlaysRow.holds Try.pinned (OpenSpec.ofChange bloomPlaysSpec)

/-- ITS FALSE NEIGHBOUR: 'it returns false'. Refute it at one input. -/
def bloomPlaysWrong : ChangeSpec := { name := "bloomPlays", fn := fun _ => fun
  | [d1, d2, d3, d4] => { results := [.lit (.bool false)], args := [d1, d2, d3, d4] }
  | _ => none }
def BloomPlaysWrongFalsely : Prop := bloomPlaysRow.holds Try.pinned (OpenSpec.ofChange bloomPlaysWrong)

/-- 'cubbyholelaw34.BloomNone': WHATEVER THE INPUT: true; the input reads as it did. -/
def bloomNoneSpec : ChangeSpec := { name := "bloomNone", fn := fun _ => fun
  | [d] => { results := [.lit (.bool true)], args := [d] }
  | _ => none }
def bloomNoneRow : OpenClaim := { program := "ytihgidkkdjmlkaa", sum := "ab486d272e38d06c9cb47a0d0e542cb3e238e6d7e880a72d8e934ad0238d6069", func := "cubbyhole/cubbyholelaw34.BloomNone", spec := "bloomNone", unfollowed := true, recurses := true, apart := false }
def BloomNoneSaid : Prop := bloomNoneRow.holds Try.pinned (OpenSpec.ofChange bloomNoneSpec)

/-- ITS FALSE NEIGHBOUR: 'it returns false'. Refute it at one input. -/
def bloomNoneWrong : ChangeSpec := { name := "bloomNone", fn := fun _ => fun
  | [d] => { results := [.lit (.bool false)], args := [d] }
  | _ => none }
def BloomNoneWrongFalsely : Prop := bloomNoneRow.holds Try.pinned (OpenSpec.ofChange bloomNoneWrong)

/- THE SECOND FORM. 'bulk': how many values and letters a reading holds, each counted each time it is reached (what is shared counts as often as it is met; a slice's spare places count too). A statement '..UptoSaid' is the law's where the arguments, and the package variables that the reading takes, are together of bulk at most 1048576: NARROWER than '..Said'. Prove '..Said' where nothing that the law and all that it calls make is longer than what came in: it says more and counts as full. Else prove '..UptoSaid'. A law counts once. -/
mutual
def uptoBulk {H : Type} : DataW H → Nat
  | .lit (.string bytes) => bytes.length + 1
  | .lit _ => 1
  | .nil => 1
  | .ptr d => uptoBulk d + 1
  | .slice elems spare => uptoBulkAll elems + uptoBulkAll spare + 1
  | .agg parts => uptoBulkAll parts + 1
  | .iface _ d => uptoBulk d + 1
  | .map entries => uptoBulkEntries entries + 1
  | .held _ => 1
def uptoBulkAll {H : Type} : List (DataW H) → Nat
  | [] => 0
  | d :: r => uptoBulk d + uptoBulkAll r
def uptoBulkEntries {H : Type} : List (Lit × DataW H) → Nat
  | [] => 0
  | x :: r => uptoBulkEntry x + uptoBulkEntries r
def uptoBulkEntry {H : Type} : Lit × DataW H → Nat
  | (.string bytes, d) => bytes.length + uptoBulk d + 1
  | (_, d) => uptoBulk d + 1
 end
def uptoSmall : (H : Type) → List (DataW H) → Bool := fun _ ds => decide (uptoBulkAll ds ≤ 1048576)
def OpenSpec.upto (s : _root_.Go.ChangeSpec) : _root_.Go.OpenSpec := { _root_.Go.OpenSpec.ofChange s with cond := some uptoSmall }

/-- 'cubbyholelaw34.BloomNew', WHERE WHAT IT READS IS OF BULK AT MOST 1048576: true; the input reads as it did. -/
def bloomNewUptoRow : OpenClaim := { program := "ytihgidkkdjmlkaa", sum := "ab486d272e38d06c9cb47a0d0e542cb3e238e6d7e880a72d8e934ad0238d6069", func := "cubbyhole/cubbyholelaw34.BloomNew", spec := "bloomNew", unfollowed := true, recurses := true, apart := false, narrowed := true }
def BloomNewUptoSaid : Prop := bloomNewUptoRow.holds Try.pinned (OpenSpec.upto bloomNewSpec)

/-- 'cubbyholelaw34.BloomPlaces', WHERE WHAT IT READS IS OF BULK AT MOST 1048576: true; the input reads as it did. -/
def bloomPlacesUptoRow : OpenClaim := { program := "ytihgidkkdjmlkaa", sum := "ab486d272e38d06c9cb47a0d0e542cb3e238e6d7e880a72d8e934ad0238d6069", func := "cubbyhole/cubbyholelaw34.BloomPlaces", spec := "bloomPlaces", unfollowed := true, recurses := true, apart := false, narrowed := true }
def BloomPlacesUptoSaid : Prop := bloomPlacesUptoRow.holds Try.pinned (OpenSpec.upto bloomPlacesSpec)

/-- 'cubbyholelaw34.BloomJoins', WHERE WHAT IT READS IS OF BULK AT MOST 1048576: true; the input reads as it did. -/
def bloomJoinsUptoRow : OpenClaim := { program := "ytihgidkkdjmlkaa", sum := "ab486d272e38d06c9cb47a0d0e542cb3e238e6d7e880a72d8e934ad0238d6069", func := "cubbyhole/cubbyholelaw34.BloomJoins", spec := "bloomJoins", unfollowed := true, recurses := true, apart := false, narrowed := true }
def BloomJoinsUptoSaid : Prop := bloomJoinsUptoRow.holds Try.pinned (OpenSpec.upto bloomJoinsSpec)

/-- 'cubbyholelaw34.BloomHolds', WHERE WHAT IT READS IS OF BULK AT MOST 1048576: true; the input reads as it did. -/
def bloomHoldsUptoRow : OpenClaim := { program := "ytihgidkkdjmlkaa", sum := "ab486d272e38d06c9cb47a0d0e542cb3e238e6d7e880a72d8e934ad0238d6069", func := "cubbyhole/cubbyholelaw34.BloomHolds", spec := "bloomHolds", unfollowed := true, recurses := true, apart := false, narrowed := true }
def BloomHoldsUptoSaid : Prop := bloomHoldsUptoRow.holds Try.pinned (OpenSpec.upto bloomHoldsSpec)

/-- 'cubbyholelaw34.BloomPlays', WHERE WHAT IT READS IS OF BULK AT MOST 1048576: true; the input reads as it did. -/
def bloomPlaysUptoRow : OpenClaim := { program := "ytihgidkkdjmlkaa", sum := "ab486d272e38d06c9cb47a0d0e542cb3e238e6d7e880a72d8e934ad0238d6069", func := "cubbyhole/cubbyholelaw34.BloomPlays", spec := "bloomPlays", unfollowed := true, recurses := true, apart := false, narrowed := true }
def BloomPlaysUptoSaid : Prop := bloomPlaysUptoRow.holds Try.pinned (OpenSpec.upto bloomPlaysSpec)

/-- 'cubbyholelaw34.BloomNone', WHERE WHAT IT READS IS OF BULK AT MOST 1048576: true; the input reads as it did. -/
def bloomNoneUptoRow : OpenClaim := { program := "ytihgidkkdjmlkaa", sum := "ab486d272e38d06c9cb47a0d0e542cb3e238e6d7e880a72d8e934ad0238d6069", func := "cubbyhole/cubbyholelaw34.BloomNone", spec := "bloomNone", unfollowed := true, recurses := true, apart := false, narrowed := true }
def BloomNoneUptoSaid : Prop := bloomNoneUptoRow.holds Try.pinned (OpenSpec.upto bloomNoneSpec)

end Rows
end Go.Proofs.Ytihgidkkdjmlkaa
