/-
  No cell of these rows narrows 'for every input' (looked for: loops, veiled, ifaces, maps, wideKeys, modest, calm, conditions, laid).
  DERIVED. THE GIVEN ROWS OF THIS SEAT. 7 by the template 'for every input the law returns true; each argument reads behind the call as it read before'; 0 by the template 'total and deterministic' (their statements: YtnopjjilpgekfaaTotals.lean).
  GIVEN WITH THE SEED: the statements are not yours to turn. If you find one false, say at which input.
  Laid BY PROGRAM, IN A SANDBOX (cutbox-rows.mjs): the forced cells as the released guide's own fill.sh prints them over the translation 9594b0712e29112f… (all of the seat's roots in one cut). By AI agents, Wed Nov 11 2026. No macro, syntax, notation, axiom, sorry.
-/
import Derived.Test.YtnopjjilpgekfaaChecked
import GoSem.Claim
import GoSem.ClaimJoined
import GoSem.ClaimMapViews
import Derived.JoinedTies
import Derived.KernelRfl
namespace Go.Proofs.Ytnopjjilpgekfaa
/- THE CELL 'sum', in the pinned program and in every row, IS THE sha256 OF THE DUMP (.gsa) THAT YtnopjjilpgekfaaProg.lean LOADS. Nothing in Lean hashes anything: it is a label: what it is worth is what the hold of that sum in a sandbox is worth. -/
noncomputable def Try.pinned : Pinned := { name := "ytnopjjilpgekfaa", sum := "9594b0712e29112f4ba12dce120b7f24c9b9d6e04e355c3129ed9e9254df8aea", checked := Try.checked }
namespace Rows
def none {H : Type} : Left H := { results := [], args := [] }

/-- 'topiarylaw09.CausalAll': WHATEVER THE INPUT: true; the input reads as it did. -/
def causalAllSpec : ChangeSpec := { name := "causalAll", fn := fun _ => fun
  | [d1, d2] => { results := [.lit (.bool true)], args := [d1, d2] }
  | _ => none }
def causalAllRow : OpenClaim := { program := "ytnopjjilpgekfaa", sum := "9594b0712e29112f4ba12dce120b7f24c9b9d6e04e355c3129ed9e9254df8aea", func := "topiary/topiarylaw09.CausalAll", spec := "causalAll", inPlace := ["slices.overlaps[topiary/api.Change]"], unfollowed := true, recurses := true, plainKeys := false, apart := false }
def CausalAllSaid : Prop := causalAllRow.holds Try.pinned (OpenSpec.ofChange causalAllSpec)

/-- ITS FALSE NEIGHBOUR: 'it returns false'. Refute it at one input. -/
def causalAllWrong : ChangeSpec := { name := "causalAll", fn := fun _ => fun
  | [d1, d2] => { results := [.lit (.bool false)], args := [d1, d2] }
  | _ => none }
def CausalAllWrongFalsely : Prop := causalAllRow.holds Try.pinned (OpenSpec.ofChange causalAllWrong)

/-- 'topiarylaw09.CausalReady': WHATEVER THE INPUT: true; the input reads as it did. -/
def causalReadySpec : ChangeSpec := { name := "causalReady", fn := fun _ => fun
  | [d1, d2] => { results := [.lit (.bool true)], args := [d1, d2] }
  | _ => none }
def causalReadyRow : OpenClaim := { program := "ytnopjjilpgekfaa", sum := "9594b0712e29112f4ba12dce120b7f24c9b9d6e04e355c3129ed9e9254df8aea", func := "topiary/topiarylaw09.CausalReady", spec := "causalReady", inPlace := ["slices.overlaps[topiary/api.Change]"], unfollowed := true, recurses := true, plainKeys := false, apart := false }
def CausalReadySaid : Prop := causalReadyRow.holds Try.pinned (OpenSpec.ofChange causalReadySpec)

/-- ITS FALSE NEIGHBOUR: 'it returns false'. Refute it at one input. -/
def causalReadyWrong : ChangeSpec := { name := "causalReady", fn := fun _ => fun
  | [d1, d2] => { results := [.lit (.bool false)], args := [d1, d2] }
  | _ => none }
def CausalReadyWrongFalsely : Prop := causalReadyRow.holds Try.pinned (OpenSpec.ofChange causalReadyWrong)

/-- 'topiarylaw09.CausalOrder': WHATEVER THE INPUT: true; the input reads as it did. -/
def causalOrderSpec : ChangeSpec := { name := "causalOrder", fn := fun _ => fun
  | [d] => { results := [.lit (.bool true)], args := [d] }
  | _ => none }
def causalOrderRow : OpenClaim := { program := "ytnopjjilpgekfaa", sum := "9594b0712e29112f4ba12dce120b7f24c9b9d6e04e355c3129ed9e9254df8aea", func := "topiary/topiarylaw09.CausalOrder", spec := "causalOrder", inPlace := ["slices.overlaps[topiary/api.Change]"], unfollowed := true, recurses := true, plainKeys := false, apart := false }
def CausalOrderSaid : Prop := causalOrderRow.holds Try.pinned (OpenSpec.ofChange causalOrderSpec)

/-- ITS FALSE NEIGHBOUR: 'it returns false'. Refute it at one input. -/
def causalOrderWrong : ChangeSpec := { name := "causalOrder", fn := fun _ => fun
  | [d] => { results := [.lit (.bool false)], args := [d] }
  | _ => none }
def CausalOrderWrongFalsely : Prop := causalOrderRow.holds Try.pinned (OpenSpec.ofChange causalOrderWrong)

/-- 'topiarylaw09.CausalFull': WHATEVER THE INPUT: true; the input reads as it did. -/
def causalFullSpec : ChangeSpec := { name := "causalFull", fn := fun _ => fun
  | [d1, d2] => { results := [.lit (.bool true)], args := [d1, d2] }
  | _ => none }
def causalFullRow : OpenClaim := { program := "ytnopjjilpgekfaa", sum := "9594b0712e29112f4ba12dce120b7f24c9b9d6e04e355c3129ed9e9254df8aea", func := "topiary/topiarylaw09.CausalFull", spec := "causalFull", inPlace := ["slices.overlaps[topiary/api.Change]"], unfollowed := true, recurses := true, plainKeys := false, apart := false }
def CausalFullSaid : Prop := causalFullRow.holds Try.pinned (OpenSpec.ofChange causalFullSpec)

/-- ITS FALSE NEIGHBOUR: 'it returns false'. Refute it at one input. -/
def causalFullWrong : ChangeSpec := { name := "causalFull", fn := fun _ => fun
  | [d1, d2] => { results := [.lit (.bool false)], args := [d1, d2] }
  | _ => none }
def CausalFullWrongFalsely : Prop := causalFullRow.holds Try.pinned (OpenSpec.ofChange causalFullWrong)

/-- 'topiarylaw09.CausalOwn': WHATEVER THE INPUT: true; the input reads as it did. -/
def causalOwnSpec : ChangeSpec := { name := "causalOwn", fn := fun _ => fun
  | [d1, d2] => { results := [.lit (.bool true)], args := [d1, d2] }
  | _ => none }
def causalOwnRow : OpenClaim := { program := "ytnopjjilpgekfaa", sum := "9594b0712e29112f4ba12dce120b7f24c9b9d6e04e355c3129ed9e9254df8aea", func := "topiary/topiarylaw09.CausalOwn", spec := "causalOwn", inPlace := ["slices.overlaps[topiary/api.Change]"], unfollowed := true, recurses := true, plainKeys := false, apart := false }
def CausalOwnSaid : Prop := causalOwnRow.holds Try.pinned (OpenSpec.ofChange causalOwnSpec)

/-- ITS FALSE NEIGHBOUR: 'it returns false'. Refute it at one input. -/
def causalOwnWrong : ChangeSpec := { name := "causalOwn", fn := fun _ => fun
  | [d1, d2] => { results := [.lit (.bool false)], args := [d1, d2] }
  | _ => none }
def CausalOwnWrongFalsely : Prop := causalOwnRow.holds Try.pinned (OpenSpec.ofChange causalOwnWrong)

/-- 'topiarylaw09.CausalTakes': WHATEVER THE INPUT: true; the input reads as it did. -/
def causalTakesSpec : ChangeSpec := { name := "causalTakes", fn := fun _ => fun
  | [d1, d2] => { results := [.lit (.bool true)], args := [d1, d2] }
  | _ => none }
def causalTakesRow : OpenClaim := { program := "ytnopjjilpgekfaa", sum := "9594b0712e29112f4ba12dce120b7f24c9b9d6e04e355c3129ed9e9254df8aea", func := "topiary/topiarylaw09.CausalTakes", spec := "causalTakes", inPlace := ["slices.overlaps[topiary/api.Change]"], unfollowed := true, recurses := true, plainKeys := false, apart := false }
def CausalTakesSaid : Prop := causalTakesRow.holds Try.pinned (OpenSpec.ofChange causalTakesSpec)

/-- ITS FALSE NEIGHBOUR: 'it returns false'. Refute it at one input. -/
def causalTakesWrong : ChangeSpec := { name := "causalTakes", fn := fun _ => fun
  | [d1, d2] => { results := [.lit (.bool false)], args := [d1, d2] }
  | _ => none }
def CausalTakesWrongFalsely : Prop := causalTakesRow.holds Try.pinned (OpenSpec.ofChange causalTakesWrong)

/-- 'topiarylaw09.CausalNil': WHATEVER THE INPUT: true; the input reads as it did. -/
def causalNilSpec : ChangeSpec := { name := "causalNil", fn := fun _ => fun
  | [d1, d2] => { results := [.lit (.bool true)], args := [d1, d2] }
  | _ => none }
def causalNilRow : OpenClaim := { program := "ytnopjjilpgekfaa", sum := "9594b0712e29112f4ba12dce120b7f24c9b9d6e04e355c3129ed9e9254df8aea", func := "topiary/topiarylaw09.CausalNil", spec := "causalNil", inPlace := ["slices.overlaps[topiary/api.Change]"], unfollowed := true, recurses := true, plainKeys := false, apart := false }
def CausalNilSaid : Prop := causalNilRow.holds Try.pinned (OpenSpec.ofChange causalNilSpec)

/-- ITS FALSE NEIGHBOUR: 'it returns false'. Refute it at one input. -/
def causalNilWrong : ChangeSpec := { name := "causalNil", fn := fun _ => fun
  | [d1, d2] => { results := [.lit (.bool false)], args := [d1, d2] }
  | _ => none }
def CausalNilWrongFalsely : Prop := causalNilRow.holds Try.pinned (OpenSpec.ofChange causalNilWrong)

/- THE SECOND FORM. 'bulk': how many values and letters a reading holds, each counted each time it is reached (what is shared counts as often as it is met; a slice's spare places count too). A statement '..UptoSaid' is the law's where the arguments, and the package variables that the reading takes, are together of bulk at most 1048576: NARROWER than '..Said'. Prove '..Said' where nothing that the law and all that it calls make is longer than what came in: it says more and counts as full. Else prove '..UptoSaid'. A law counts once. -/
mutual
def uptoBulk {H : Type} : DataW H → Nat
  | .lit (.string bytes) => bytes.length + 1
  | .lit _ => 1
  | .nil => 1
  | .ptr d => uptoBulk d + 1
  | .slice elems spare => uptoBulkAll elems + uptoBulkAll spare + 1
  | .agg parts => uptoBulkAll parts + 1
  | .iface _ d => uptoBulk d + 1
  | .map entries => uptoBulkEntries entries + 1
  | .held _ => 1
def uptoBulkAll {H : Type} : List (DataW H) → Nat
  | [] => 0
  | d :: r => uptoBulk d + uptoBulkAll r
def uptoBulkEntries {H : Type} : List (Lit × DataW H) → Nat
  | [] => 0
  | x :: r => uptoBulkEntry x + uptoBulkEntries r
def uptoBulkEntry {H : Type} : Lit × DataW H → Nat
  | (.string bytes, d) => bytes.length + uptoBulk d + 1
  | (_, d) => uptoBulk d + 1
 end
def uptoSmall : (H : Type) → List (DataW H) → Bool := fun _ ds => decide (uptoBulkAll ds ≤ 1048576)
def OpenSpec.upto (s : _root_.Go.ChangeSpec) : _root_.Go.OpenSpec := { _root_.Go.OpenSpec.ofChange s with cond := some uptoSmall }

/-- 'topiarylaw09.CausalAll', WHERE WHAT IT READS IS OF BULK AT MOST 1048576: true; the input reads as it did. -/
def causalAllUptoRow : OpenClaim := { program := "ytnopjjilpgekfaa", sum := "9594b0712e29112f4ba12dce120b7f24c9b9d6e04e355c3129ed9e9254df8aea", func := "topiary/topiarylaw09.CausalAll", spec := "causalAll", inPlace := ["slices.overlaps[topiary/api.Change]"], unfollowed := true, recurses := true, plainKeys := false, apart := false, narrowed := true }
def CausalAllUptoSaid : Prop := causalAllUptoRow.holds Try.pinned (OpenSpec.upto causalAllSpec)

/-- 'topiarylaw09.CausalReady', WHERE WHAT IT READS IS OF BULK AT MOST 1048576: true; the input reads as it did. -/
def causalReadyUptoRow : OpenClaim := { program := "ytnopjjilpgekfaa", sum := "9594b0712e29112f4ba12dce120b7f24c9b9d6e04e355c3129ed9e9254df8aea", func := "topiary/topiarylaw09.CausalReady", spec := "causalReady", inPlace := ["slices.overlaps[topiary/api.Change]"], unfollowed := true, recurses := true, plainKeys := false, apart := false, narrowed := true }
def CausalReadyUptoSaid : Prop := causalReadyUptoRow.holds Try.pinned (OpenSpec.upto causalReadySpec)

/-- 'topiarylaw09.CausalOrder', WHERE WHAT IT READS IS OF BULK AT MOST 1048576: true; the input reads as it did. -/
def causalOrderUptoRow : OpenClaim := { program := "ytnopjjilpgekfaa", sum := "9594b0712e29112f4ba12dce120b7f24c9b9d6e04e355c3129ed9e9254df8aea", func := "topiary/topiarylaw09.CausalOrder", spec := "causalOrder", inPlace := ["slices.overlaps[topiary/api.Change]"], unfollowed := true, recurses := true, plainKeys := false, apart := false, narrowed := true }
def CausalOrderUptoSaid : Prop := causalOrderUptoRow.holds Try.pinned (OpenSpec.upto causalOrderSpec)

/-- 'topiarylaw09.CausalFull', WHERE WHAT IT READS IS OF BULK AT MOST 1048576: true; the input reads as it did. -/
def causalFullUptoRow : OpenClaim := { program := "ytnopjjilpgekfaa", sum := "9594b0712e29112f4ba12dce120b7f24c9b9d6e04e355c3129ed9e9254df8aea", func := "topiary/topiarylaw09.CausalFull", spec := "causalFull", inPlace := ["slices.overlaps[topiary/api.Change]"], unfollowed := true, recurses := true, plainKeys := false, apart := false, narrowed := true }
def CausalFullUptoSaid : Prop := causalFullUptoRow.holds Try.pinned (OpenSpec.upto causalFullSpec)

/-- 'topiarylaw09.CausalOwn', WHERE WHAT IT READS IS OF BULK AT MOST 1048576: true; the input reads as it did. -/
def causalOwnUptoRow : OpenClaim := { program := "ytnopjjilpgekfaa", sum := "9594b0712e29112f4ba12dce120b7f24c9b9d6e04e355c3129ed9e9254df8aea", func := "topiary/topiarylaw09.CausalOwn", spec := "causalOwn", inPlace := ["slices.overlaps[topiary/api.Change]"], unfollowed := true, recurses := true, plainKeys := false, apart := false, narrowed := true }
def CausalOwnUptoSaid : Prop := causalOwnUptoRow.holds Try.pinned (OpenSpec.upto causalOwnSpec)

/-- 'topiarylaw09.CausalTakes', WHERE WHAT IT READS IS OF BULK AT MOST 1048576: true; the input reads as it did. -/
def causalTakesUptoRow : OpenClaim := { program := "ytnopjjilpgekfaa", sum := "9594b0712e29112f4ba12dce120b7f24c9b9d6e04e355c3129ed9e9254df8aea", func := "topiary/topiarylaw09.CausalTakes", spec := "causalTakes", inPlace := ["slices.overlaps[topiary/api.Change]"], unfollowed := true, recurses := true, plainKeys := false, apart := false, narrowed := true }
def CausalTakesUptoSaid : Prop := causalTakesUptoRow.holds Try.pinned (OpenSpec.upto causalTakesSpec)

/-- 'topiarylaw09.CausalNil', WHERE WHAT IT READS IS OF BULK AT MOST 1048576: true; the input reads as it did. -/
def causalNilUptoRow : OpenClaim := { program := "ytnopjjilpgekfaa", sum := "9594b0712e29112f4ba12dce120b7f24c9b9d6e04e355c3129ed9e9254df8aea", func := "topiary/topiarylaw09.CausalNil", spec := "causalNil", inPlace := ["slices.overlaps[topiary/api.Change]"], unfollowed := true, recurses := true, plainKeys := false, apart := false, narrowed := true }
def CausalNilUptoSaid : Prop := causalNilUptoRow.holds Try.pinned (OpenSpec.upto causalNilSpec)

end Rows
end Go.Proofs.Ytnopjjilpgekfaa
