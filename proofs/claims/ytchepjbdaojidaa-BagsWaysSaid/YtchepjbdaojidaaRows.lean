/-
  No cell of these rows narrows 'for every input' (looked for: loops, veiled, ifaces, maps, wideKeys, modest, calm, conditions, laid).
  DERIVED. THE GIVEN ROWS OF THIS SEAT. 7 by the template 'for every input the law returns true; each argument reads behind the call as it read before'; 0 by the template 'total and deterministic' (their statements: YtchepjbdaojidaaTotals.lean).
  GIVEN WITH THE SEED: the statements are not yours to turn. If you find one false, say at which input.
  Laid BY PROGRAM, IN A SANDBOX (cutbox-rows.mjs): the forced cells as the released guide's own fill.sh prints them over the translation a3a2cdc1c7ea3e07… (all of the seat's roots in one cut). By AI agents, Wed Nov 11 2026. No macro, syntax, notation, axiom, sorry.
-/
import Derived.Test.YtchepjbdaojidaaChecked
import GoSem.Claim
import GoSem.ClaimJoined
import GoSem.ClaimMapViews
import Derived.JoinedTies
import Derived.KernelRfl
namespace Go.Proofs.Ytchepjbdaojidaa
/- THE CELL 'sum', in the pinned program and in every row, IS THE sha256 OF THE DUMP (.gsa) THAT YtchepjbdaojidaaProg.lean LOADS. Nothing in Lean hashes anything: it is a label: what it is worth is what the hold of that sum in a sandbox is worth. -/
noncomputable def Try.pinned : Pinned := { name := "ytchepjbdaojidaa", sum := "a3a2cdc1c7ea3e07d2e1c0118160a42032a27d64a59427e90f8eb30639cd2333", checked := Try.checked }
namespace Rows
def none {H : Type} : Left H := { results := [], args := [] }

/-- 'topiarylaw08.BagsFull': WHATEVER THE INPUT: true; the input reads as it did. -/
def bagsFullSpec : ChangeSpec := { name := "bagsFull", fn := fun _ => fun
  | [d1, d2] => { results := [.lit (.bool true)], args := [d1, d2] }
  | _ => none }
def bagsFullRow : OpenClaim := { program := "ytchepjbdaojidaa", sum := "a3a2cdc1c7ea3e07d2e1c0118160a42032a27d64a59427e90f8eb30639cd2333", func := "topiary/topiarylaw08.BagsFull", spec := "bagsFull", unfollowed := true, recurses := true, apart := false }
def BagsFullSaid : Prop := bagsFullRow.holds Try.pinned (OpenSpec.ofChange bagsFullSpec)

/-- ITS FALSE NEIGHBOUR: 'it returns false'. Refute it at one input. -/
def bagsFullWrong : ChangeSpec := { name := "bagsFull", fn := fun _ => fun
  | [d1, d2] => { results := [.lit (.bool false)], args := [d1, d2] }
  | _ => none }
def BagsFullWrongFalsely : Prop := bagsFullRow.holds Try.pinned (OpenSpec.ofChange bagsFullWrong)

/-- 'topiarylaw08.BagsCounts': WHATEVER THE INPUT: true; the input reads as it did. -/
def bagsCountsSpec : ChangeSpec := { name := "bagsCounts", fn := fun _ => fun
  | [d1, d2] => { results := [.lit (.bool true)], args := [d1, d2] }
  | _ => none }
def bagsCountsRow : OpenClaim := { program := "ytchepjbdaojidaa", sum := "a3a2cdc1c7ea3e07d2e1c0118160a42032a27d64a59427e90f8eb30639cd2333", func := "topiary/topiarylaw08.BagsCounts", spec := "bagsCounts", unfollowed := true, recurses := true, apart := false }
def BagsCountsSaid : Prop := bagsCountsRow.holds Try.pinned (OpenSpec.ofChange bagsCountsSpec)

/-- ITS FALSE NEIGHBOUR: 'it returns false'. Refute it at one input. -/
def bagsCountsWrong : ChangeSpec := { name := "bagsCounts", fn := fun _ => fun
  | [d1, d2] => { results := [.lit (.bool false)], args := [d1, d2] }
  | _ => none }
def BagsCountsWrongFalsely : Prop := bagsCountsRow.holds Try.pinned (OpenSpec.ofChange bagsCountsWrong)

/-- 'topiarylaw08.BagsApart': WHATEVER THE INPUT: true; the input reads as it did. -/
def bagsApartSpec : ChangeSpec := { name := "bagsApart", fn := fun _ => fun
  | [d1, d2] => { results := [.lit (.bool true)], args := [d1, d2] }
  | _ => none }
def bagsApartRow : OpenClaim := { program := "ytchepjbdaojidaa", sum := "a3a2cdc1c7ea3e07d2e1c0118160a42032a27d64a59427e90f8eb30639cd2333", func := "topiary/topiarylaw08.BagsApart", spec := "bagsApart", apart := false }
def BagsApartSaid : Prop := bagsApartRow.holds Try.pinned (OpenSpec.ofChange bagsApartSpec)

/-- ITS FALSE NEIGHBOUR: 'it returns false'. Refute it at one input. -/
def bagsApartWrong : ChangeSpec := { name := "bagsApart", fn := fun _ => fun
  | [d1, d2] => { results := [.lit (.bool false)], args := [d1, d2] }
  | _ => none }
def BagsApartWrongFalsely : Prop := bagsApartRow.holds Try.pinned (OpenSpec.ofChange bagsApartWrong)

/-- 'topiarylaw08.BagsWays': WHATEVER THE INPUT: true; the input reads as it did. -/
def bagsWaysSpec : ChangeSpec := { name := "bagsWays", fn := fun _ => fun
  | [d1, d2] => { results := [.lit (.bool true)], args := [d1, d2] }
  | _ => none }
def bagsWaysRow : OpenClaim := { program := "ytchepjbdaojidaa", sum := "a3a2cdc1c7ea3e07d2e1c0118160a42032a27d64a59427e90f8eb30639cd2333", func := "topiary/topiarylaw08.BagsWays", spec := "bagsWays", unfollowed := true, recurses := true, apart := false }
def BagsWaysSaid : Prop := bagsWaysRow.holds Try.pinned (OpenSpec.ofChange bagsWaysSpec)

/-- ITS FALSE NEIGHBOUR: 'it returns false'. Refute it at one input. -/
def bagsWaysWrong : ChangeSpec := { name := "bagsWays", fn := fun _ => fun
  | [d1, d2] => { results := [.lit (.bool false)], args := [d1, d2] }
  | _ => none }
def BagsWaysWrongFalsely : Prop := bagsWaysRow.holds Try.pinned (OpenSpec.ofChange bagsWaysWrong)

/-- 'topiarylaw08.BagsSpoilt': WHATEVER THE INPUT: true; the input reads as it did. -/
def bagsSpoiltSpec : ChangeSpec := { name := "bagsSpoilt", fn := fun _ => fun
  | [d1, d2, d3] => { results := [.lit (.bool true)], args := [d1, d2, d3] }
  | _ => none }
def bagsSpoiltRow : OpenClaim := { program := "ytchepjbdaojidaa", sum := "a3a2cdc1c7ea3e07d2e1c0118160a42032a27d64a59427e90f8eb30639cd2333", func := "topiary/topiarylaw08.BagsSpoilt", spec := "bagsSpoilt", unfollowed := true, recurses := true, apart := false }
def BagsSpoiltSaid : Prop := bagsSpoiltRow.holds Try.pinned (OpenSpec.ofChange bagsSpoiltSpec)

/-- ITS FALSE NEIGHBOUR: 'it returns false'. Refute it at one input. -/
def bagsSpoiltWrong : ChangeSpec := { name := "bagsSpoilt", fn := fun _ => fun
  | [d1, d2, d3] => { results := [.lit (.bool false)], args := [d1, d2, d3] }
  | _ => none }
def BagsSpoiltWrongFalsely : Prop := bagsSpoiltRow.holds Try.pinned (OpenSpec.ofChange bagsSpoiltWrong)

/-- 'topiarylaw08.BagsPlays': WHATEVER THE INPUT: true; the input reads as it did. -/
def bagsPlaysSpec : ChangeSpec := { name := "bagsPlays", fn := fun _ => fun
  | [d1, d2] => { results := [.lit (.bool true)], args := [d1, d2] }
  | _ => none }
def bagsPlaysRow : OpenClaim := { program := "ytchepjbdaojidaa", sum := "a3a2cdc1c7ea3e07d2e1c0118160a42032a27d64a59427e90f8eb30639cd2333", func := "topiary/topiarylaw08.BagsPlays", spec := "bagsPlays", unfollowed := true, recurses := true, apart := false }
def BagsPlaysSaid : Prop := bagsPlaysRow.holds Try.pinned (OpenSpec.ofChange bagsPlaysSpec)

/-- ITS FALSE NEIGHBOUR: 'it returns false'. Refute it at one input. -/
def bagsPlaysWrong : ChangeSpec := { name := "bagsPlays", fn := fun _ => fun
  | [d1, d2] => { results := [.lit (.bool false)], args := [d1, d2] }
  | _ => none }
def BagsPlaysWrongFalsely : Prop := bagsPlaysRow.holds Try.pinned (OpenSpec.ofChange bagsPlaysWrong)

/-- 'topiarylaw08.BagsNil': WHATEVER THE INPUT: true; the input reads as it did. -/
def bagsNilSpec : ChangeSpec := { name := "bagsNil", fn := fun _ => fun
  | [d] => { results := [.lit (.bool true)], args := [d] }
  | _ => none }
def bagsNilRow : OpenClaim := { program := "ytchepjbdaojidaa", sum := "a3a2cdc1c7ea3e07d2e1c0118160a42032a27d64a59427e90f8eb30639cd2333", func := "topiary/topiarylaw08.BagsNil", spec := "bagsNil", unfollowed := true, recurses := true, apart := false }
def BagsNilSaid : Prop := bagsNilRow.holds Try.pinned (OpenSpec.ofChange bagsNilSpec)

/-- ITS FALSE NEIGHBOUR: 'it returns false'. Refute it at one input. -/
def bagsNilWrong : ChangeSpec := { name := "bagsNil", fn := fun _ => fun
  | [d] => { results := [.lit (.bool false)], args := [d] }
  | _ => none }
def BagsNilWrongFalsely : Prop := bagsNilRow.holds Try.pinned (OpenSpec.ofChange bagsNilWrong)

/- THE SECOND FORM. 'bulk': how many values and letters a reading holds, each counted each time it is reached (what is shared counts as often as it is met; a slice's spare places count too). A statement '..UptoSaid' is the law's where the arguments, and the package variables that the reading takes, are together of bulk at most 1048576: NARROWER than '..Said'. Prove '..Said' where nothing that the law and all that it calls make is longer than what came in: it says more and counts as full. Else prove '..UptoSaid'. A law counts once. -/
mutual
def uptoBulk {H : Type} : DataW H → Nat
  | .lit (.string bytes) => bytes.length + 1
  | .lit _ => 1
  | .nil => 1
  | .ptr d => uptoBulk d + 1
  | .slice elems spare => uptoBulkAll elems + uptoBulkAll spare + 1
  | .agg parts => uptoBulkAll parts + 1
  | .iface _ d => uptoBulk d + 1
  | .map entries => uptoBulkEntries entries + 1
  | .held _ => 1
def uptoBulkAll {H : Type} : List (DataW H) → Nat
  | [] => 0
  | d :: r => uptoBulk d + uptoBulkAll r
def uptoBulkEntries {H : Type} : List (Lit × DataW H) → Nat
  | [] => 0
  | x :: r => uptoBulkEntry x + uptoBulkEntries r
def uptoBulkEntry {H : Type} : Lit × DataW H → Nat
  | (.string bytes, d) => bytes.length + uptoBulk d + 1
  | (_, d) => uptoBulk d + 1
 end
def uptoSmall : (H : Type) → List (DataW H) → Bool := fun _ ds => decide (uptoBulkAll ds ≤ 1048576)
def OpenSpec.upto (s : _root_.Go.ChangeSpec) : _root_.Go.OpenSpec := { _root_.Go.OpenSpec.ofChange s with cond := some uptoSmall }

/-- 'topiarylaw08.BagsFull', WHERE WHAT IT READS IS OF BULK AT MOST 1048576: true; the input reads as it did. -/
def bagsFullUptoRow : OpenClaim := { program := "ytchepjbdaojidaa", sum := "a3a2cdc1c7ea3e07d2e1c0118160a42032a27d64a59427e90f8eb30639cd2333", func := "topiary/topiarylaw08.BagsFull", spec := "bagsFull", unfollowed := true, recurses := true, apart := false, narrowed := true }
def BagsFullUptoSaid : Prop := bagsFullUptoRow.holds Try.pinned (OpenSpec.upto bagsFullSpec)

/-- 'topiarylaw08.BagsCounts', WHERE WHAT IT READS IS OF BULK AT MOST 1048576: true; the input reads as it did. -/
def bagsCountsUptoRow : OpenClaim := { program := "ytchepjbdaojidaa", sum := "a3a2cdc1c7ea3e07d2e1c0118160a42032a27d64a59427e90f8eb30639cd2333", func := "topiary/topiarylaw08.BagsCounts", spec := "bagsCounts", unfollowed := true, recurses := true, apart := false, narrowed := true }
def BagsCountsUptoSaid : Prop := bagsCountsUptoRow.holds Try.pinned (OpenSpec.upto bagsCountsSpec)

/-- 'topiarylaw08.BagsApart', WHERE WHAT IT READS IS OF BULK AT MOST 1048576: true; the input reads as it did. -/
def bagsApartUptoRow : OpenClaim := { program := "ytchepjbdaojidaa", sum := "a3a2cdc1c7ea3e07d2e1c0118160a42032a27d64a59427e90f8eb30639cd2333", func := "topiary/topiarylaw08.BagsApart", spec := "bagsApart", apart := false, narrowed := true }
def BagsApartUptoSaid : Prop := bagsApartUptoRow.holds Try.pinned (OpenSpec.upto bagsApartSpec)

/-- 'topiarylaw08.BagsWays', WHERE WHAT IT READS IS OF BULK AT MOST 1048576: true; the input reads as it did. -/
def bagsWaysUptoRow : OpenClaim := { program := "ytchepjbdaojidaa", sum := "a3a2cdc1c7ea3e07d2e1c0118160a42032a27d64a59427e90f8eb30639cd2333", func := "topiary/topiarylaw08.BagsWays", spec := "bagsWays", unfollowed := true, recurses := true, apart := false, narrowed := true }
def BagsWaysUptoSaid : Prop := bagsWaysUptoRow.holds Try.pinned (OpenSpec.upto bagsWaysSpec)

/-- 'topiarylaw08.BagsSpoilt', WHERE WHAT IT READS IS OF BULK AT MOST 1048576: true; the input reads as it did. -/
def bagsSpoiltUptoRow : OpenClaim := { program := "ytchepjbdaojidaa", sum := "a3a2cdc1c7ea3e07d2e1c0118160a42032a27d64a59427e90f8eb30639cd2333", func := "topiary/topiarylaw08.BagsSpoilt", spec := "bagsSpoilt", unfollowed := true, recurses := true, apart := false, narrowed := true }
def BagsSpoiltUptoSaid : Prop := bagsSpoiltUptoRow.holds Try.pinned (OpenSpec.upto bagsSpoiltSpec)

/-- 'topiarylaw08.BagsPlays', WHERE WHAT IT READS IS OF BULK AT MOST 1048576: true; the input reads as it did. -/
def bagsPlaysUptoRow : OpenClaim := { program := "ytchepjbdaojidaa", sum := "a3a2cdc1c7ea3e07d2e1c0118160a42032a27d64a59427e90f8eb30639cd2333", func := "topiary/topiarylaw08.BagsPlays", spec := "bagsPlays", unfollowed := true, recurses := true, apart := false, narrowed := true }
def BagsPlaysUptoSaid : Prop := bagsPlaysUptoRow.holds Try.pinned (OpenSpec.upto bagsPlaysSpec)

/-- 'topiarylaw08.BagsNil', WHERE WHAT IT READS IS OF BULK AT MOST 1048576: true; the input reads as it did. -/
def bagsNilUptoRow : OpenClaim := { program := "ytchepjbdaojidaa", sum := "a3a2cdc1c7ea3e07d2e1c0118160a42032a27d64a59427e90f8eb30639cd2333", func := "topiary/topiarylaw08.BagsNil", spec := "bagsNil", unfollowed := true, recurses := true, apart := false, narrowed := true }
def BagsNilUptoSaid : Prop := bagsNilUptoRow.holds Try.pinned (OpenSpec.upto bagsNilSpec)

end Rows
end Go.Proofs.Ytchepjbdaojidaa
