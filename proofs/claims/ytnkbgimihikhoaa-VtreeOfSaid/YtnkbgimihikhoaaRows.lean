/-
  NARROWER THAN 'FOR EVERY INPUT', by the rows' own cells (each row's printed sentence says how): VtreeChecks: loops · VtreeCopies: loops · VtreeGoes: loops · VtreeSames: loops · VtreeAsks: loops · VtreeFinds: loops.
  DERIVED. THE GIVEN ROWS OF THIS SEAT. 8 by the template 'for every input the law returns true; each argument reads behind the call as it read before'; 0 by the template 'total and deterministic' (their statements: YtnkbgimihikhoaaTotals.lean).
  GIVEN WITH THE SEED: the statements are not yours to turn. If you find one false, say at which input.
  Laid BY PROGRAM, IN A SANDBOX (cutbox-rows.mjs): the forced cells as the released guide's own fill.sh prints them over the translation 53883102e4e68247… (all of the seat's roots in one cut). By AI agents, Wed Nov 11 2026. No macro, syntax, notation, axiom, sorry.
-/
import Derived.Test.YtnkbgimihikhoaaChecked
import GoSem.Claim
import GoSem.ClaimJoined
import GoSem.ClaimMapViews
import Derived.JoinedTies
import Derived.KernelRfl
namespace Go.Proofs.Ytnkbgimihikhoaa
/- THE CELL 'sum', in the pinned program and in every row, IS THE sha256 OF THE DUMP (.gsa) THAT YtnkbgimihikhoaaProg.lean LOADS. Nothing in Lean hashes anything: it is a label: what it is worth is what the hold of that sum in a sandbox is worth. -/
noncomputable def Try.pinned : Pinned := { name := "ytnkbgimihikhoaa", sum := "53883102e4e6824725030a3893bd9b4bc3fa8fee7448a37734e122e22faa7f98", checked := Try.checked }
namespace Rows
def none {H : Type} : Left H := { results := [], args := [] }

/-- 'topiarylaw15.VtreeChecks': WHATEVER THE INPUT: true; the input reads as it did. -/
def vtreeChecksSpec : ChangeSpec := { name := "vtreeChecks", fn := fun _ => fun
  | [d] => { results := [.lit (.bool true)], args := [d] }
  | _ => none }
def vtreeChecksRow : OpenClaim := { program := "ytnkbgimihikhoaa", sum := "53883102e4e6824725030a3893bd9b4bc3fa8fee7448a37734e122e22faa7f98", func := "topiary/topiarylaw15.VtreeChecks", spec := "vtreeChecks", unfollowed := true, recurses := true, loops := true, plainKeys := false, apart := false }
def VtreeChecksSaid : Prop := vtreeChecksRow.holds Try.pinned (OpenSpec.ofChange vtreeChecksSpec)

/-- ITS FALSE NEIGHBOUR: 'it returns false'. Refute it at one input. -/
def vtreeChecksWrong : ChangeSpec := { name := "vtreeChecks", fn := fun _ => fun
  | [d] => { results := [.lit (.bool false)], args := [d] }
  | _ => none }
def VtreeChecksWrongFalsely : Prop := vtreeChecksRow.holds Try.pinned (OpenSpec.ofChange vtreeChecksWrong)

/-- 'topiarylaw15.VtreeOf': WHATEVER THE INPUT: true; the input reads as it did. -/
def vtreeOfSpec : ChangeSpec := { name := "vtreeOf", fn := fun _ => fun
  | [d] => { results := [.lit (.bool true)], args := [d] }
  | _ => none }
def vtreeOfRow : OpenClaim := { program := "ytnkbgimihikhoaa", sum := "53883102e4e6824725030a3893bd9b4bc3fa8fee7448a37734e122e22faa7f98", func := "topiary/topiarylaw15.VtreeOf", spec := "vtreeOf", unfollowed := true, recurses := true, plainKeys := false, apart := false }
def VtreeOfSaid : Prop := vtreeOfRow.holds Try.pinned (OpenSpec.ofChange vtreeOfSpec)

/-- ITS FALSE NEIGHBOUR: 'it returns false'. Refute it at one input. -/
def vtreeOfWrong : ChangeSpec := { name := "vtreeOf", fn := fun _ => fun
  | [d] => { results := [.lit (.bool false)], args := [d] }
  | _ => none }
def VtreeOfWrongFalsely : Prop := vtreeOfRow.holds Try.pinned (OpenSpec.ofChange vtreeOfWrong)

/-- 'topiarylaw15.VtreeLive': WHATEVER THE INPUT: true; the input reads as it did. -/
def vtreeLiveSpec : ChangeSpec := { name := "vtreeLive", fn := fun _ => fun
  | [d] => { results := [.lit (.bool true)], args := [d] }
  | _ => none }
def vtreeLiveRow : OpenClaim := { program := "ytnkbgimihikhoaa", sum := "53883102e4e6824725030a3893bd9b4bc3fa8fee7448a37734e122e22faa7f98", func := "topiary/topiarylaw15.VtreeLive", spec := "vtreeLive", unfollowed := true, recurses := true, plainKeys := false, apart := false }
def VtreeLiveSaid : Prop := vtreeLiveRow.holds Try.pinned (OpenSpec.ofChange vtreeLiveSpec)

/-- ITS FALSE NEIGHBOUR: 'it returns false'. Refute it at one input. -/
def vtreeLiveWrong : ChangeSpec := { name := "vtreeLive", fn := fun _ => fun
  | [d] => { results := [.lit (.bool false)], args := [d] }
  | _ => none }
def VtreeLiveWrongFalsely : Prop := vtreeLiveRow.holds Try.pinned (OpenSpec.ofChange vtreeLiveWrong)

/-- 'topiarylaw15.VtreeCopies': WHATEVER THE INPUT: true; the input reads as it did. -/
def vtreeCopiesSpec : ChangeSpec := { name := "vtreeCopies", fn := fun _ => fun
  | [d] => { results := [.lit (.bool true)], args := [d] }
  | _ => none }
def vtreeCopiesRow : OpenClaim := { program := "ytnkbgimihikhoaa", sum := "53883102e4e6824725030a3893bd9b4bc3fa8fee7448a37734e122e22faa7f98", func := "topiary/topiarylaw15.VtreeCopies", spec := "vtreeCopies", unfollowed := true, recurses := true, loops := true, plainKeys := false, apart := false }
def VtreeCopiesSaid : Prop := vtreeCopiesRow.holds Try.pinned (OpenSpec.ofChange vtreeCopiesSpec)

/-- ITS FALSE NEIGHBOUR: 'it returns false'. Refute it at one input. -/
def vtreeCopiesWrong : ChangeSpec := { name := "vtreeCopies", fn := fun _ => fun
  | [d] => { results := [.lit (.bool false)], args := [d] }
  | _ => none }
def VtreeCopiesWrongFalsely : Prop := vtreeCopiesRow.holds Try.pinned (OpenSpec.ofChange vtreeCopiesWrong)

/-- 'topiarylaw15.VtreeGoes': WHATEVER THE INPUT: true; the input reads as it did. -/
def vtreeGoesSpec : ChangeSpec := { name := "vtreeGoes", fn := fun _ => fun
  | [d1, d2] => { results := [.lit (.bool true)], args := [d1, d2] }
  | _ => none }
def vtreeGoesRow : OpenClaim := { program := "ytnkbgimihikhoaa", sum := "53883102e4e6824725030a3893bd9b4bc3fa8fee7448a37734e122e22faa7f98", func := "topiary/topiarylaw15.VtreeGoes", spec := "vtreeGoes", unfollowed := true, recurses := true, loops := true, plainKeys := false, apart := false }
def VtreeGoesSaid : Prop := vtreeGoesRow.holds Try.pinned (OpenSpec.ofChange vtreeGoesSpec)

/-- ITS FALSE NEIGHBOUR: 'it returns false'. Refute it at one input. -/
def vtreeGoesWrong : ChangeSpec := { name := "vtreeGoes", fn := fun _ => fun
  | [d1, d2] => { results := [.lit (.bool false)], args := [d1, d2] }
  | _ => none }
def VtreeGoesWrongFalsely : Prop := vtreeGoesRow.holds Try.pinned (OpenSpec.ofChange vtreeGoesWrong)

/-- 'topiarylaw15.VtreeSames': WHATEVER THE INPUT: true; the input reads as it did. -/
def vtreeSamesSpec : ChangeSpec := { name := "vtreeSames", fn := fun _ => fun
  | [d1, d2] => { results := [.lit (.bool true)], args := [d1, d2] }
  | _ => none }
def vtreeSamesRow : OpenClaim := { program := "ytnkbgimihikhoaa", sum := "53883102e4e6824725030a3893bd9b4bc3fa8fee7448a37734e122e22faa7f98", func := "topiary/topiarylaw15.VtreeSames", spec := "vtreeSames", unfollowed := true, recurses := true, loops := true, plainKeys := false, apart := false }
def VtreeSamesSaid : Prop := vtreeSamesRow.holds Try.pinned (OpenSpec.ofChange vtreeSamesSpec)

/-- ITS FALSE NEIGHBOUR: 'it returns false'. Refute it at one input. -/
def vtreeSamesWrong : ChangeSpec := { name := "vtreeSames", fn := fun _ => fun
  | [d1, d2] => { results := [.lit (.bool false)], args := [d1, d2] }
  | _ => none }
def VtreeSamesWrongFalsely : Prop := vtreeSamesRow.holds Try.pinned (OpenSpec.ofChange vtreeSamesWrong)

/-- 'topiarylaw15.VtreeAsks': WHATEVER THE INPUT: true; the input reads as it did. -/
def vtreeAsksSpec : ChangeSpec := { name := "vtreeAsks", fn := fun _ => fun
  | [d1, d2] => { results := [.lit (.bool true)], args := [d1, d2] }
  | _ => none }
def vtreeAsksRow : OpenClaim := { program := "ytnkbgimihikhoaa", sum := "53883102e4e6824725030a3893bd9b4bc3fa8fee7448a37734e122e22faa7f98", func := "topiary/topiarylaw15.VtreeAsks", spec := "vtreeAsks", unfollowed := true, recurses := true, loops := true, plainKeys := false, apart := false }
def VtreeAsksSaid : Prop := vtreeAsksRow.holds Try.pinned (OpenSpec.ofChange vtreeAsksSpec)

/-- ITS FALSE NEIGHBOUR: 'it returns false'. Refute it at one input. -/
def vtreeAsksWrong : ChangeSpec := { name := "vtreeAsks", fn := fun _ => fun
  | [d1, d2] => { results := [.lit (.bool false)], args := [d1, d2] }
  | _ => none }
def VtreeAsksWrongFalsely : Prop := vtreeAsksRow.holds Try.pinned (OpenSpec.ofChange vtreeAsksWrong)

/-- 'topiarylaw15.VtreeFinds': WHATEVER THE INPUT: true; the input reads as it did. -/
def vtreeFindsSpec : ChangeSpec := { name := "vtreeFinds", fn := fun _ => fun
  | [d] => { results := [.lit (.bool true)], args := [d] }
  | _ => none }
def vtreeFindsRow : OpenClaim := { program := "ytnkbgimihikhoaa", sum := "53883102e4e6824725030a3893bd9b4bc3fa8fee7448a37734e122e22faa7f98", func := "topiary/topiarylaw15.VtreeFinds", spec := "vtreeFinds", unfollowed := true, recurses := true, loops := true, plainKeys := false, apart := false }
def VtreeFindsSaid : Prop := vtreeFindsRow.holds Try.pinned (OpenSpec.ofChange vtreeFindsSpec)

/-- ITS FALSE NEIGHBOUR: 'it returns false'. Refute it at one input. -/
def vtreeFindsWrong : ChangeSpec := { name := "vtreeFinds", fn := fun _ => fun
  | [d] => { results := [.lit (.bool false)], args := [d] }
  | _ => none }
def VtreeFindsWrongFalsely : Prop := vtreeFindsRow.holds Try.pinned (OpenSpec.ofChange vtreeFindsWrong)

/- THE SECOND FORM. 'bulk': how many values and letters a reading holds, each counted each time it is reached (what is shared counts as often as it is met; a slice's spare places count too). A statement '..UptoSaid' is the law's where the arguments, and the package variables that the reading takes, are together of bulk at most 1048576: NARROWER than '..Said'. Prove '..Said' where nothing that the law and all that it calls make is longer than what came in: it says more and counts as full. Else prove '..UptoSaid'. A law counts once. -/
mutual
def uptoBulk {H : Type} : DataW H → Nat
  | .lit (.string bytes) => bytes.length + 1
  | .lit _ => 1
  | .nil => 1
  | .ptr d => uptoBulk d + 1
  | .slice elems spare => uptoBulkAll elems + uptoBulkAll spare + 1
  | .agg parts => uptoBulkAll parts + 1
  | .iface _ d => uptoBulk d + 1
  | .map entries => uptoBulkEntries entries + 1
  | .held _ => 1
def uptoBulkAll {H : Type} : List (DataW H) → Nat
  | [] => 0
  | d :: r => uptoBulk d + uptoBulkAll r
def uptoBulkEntries {H : Type} : List (Lit × DataW H) → Nat
  | [] => 0
  | x :: r => uptoBulkEntry x + uptoBulkEntries r
def uptoBulkEntry {H : Type} : Lit × DataW H → Nat
  | (.string bytes, d) => bytes.length + uptoBulk d + 1
  | (_, d) => uptoBulk d + 1
 end
def uptoSmall : (H : Type) → List (DataW H) → Bool := fun _ ds => decide (uptoBulkAll ds ≤ 1048576)
def OpenSpec.upto (s : _root_.Go.ChangeSpec) : _root_.Go.OpenSpec := { _root_.Go.OpenSpec.ofChange s with cond := some uptoSmall }

/-- 'topiarylaw15.VtreeChecks', WHERE WHAT IT READS IS OF BULK AT MOST 1048576: true; the input reads as it did. -/
def vtreeChecksUptoRow : OpenClaim := { program := "ytnkbgimihikhoaa", sum := "53883102e4e6824725030a3893bd9b4bc3fa8fee7448a37734e122e22faa7f98", func := "topiary/topiarylaw15.VtreeChecks", spec := "vtreeChecks", unfollowed := true, recurses := true, loops := true, plainKeys := false, apart := false, narrowed := true }
def VtreeChecksUptoSaid : Prop := vtreeChecksUptoRow.holds Try.pinned (OpenSpec.upto vtreeChecksSpec)

/-- 'topiarylaw15.VtreeOf', WHERE WHAT IT READS IS OF BULK AT MOST 1048576: true; the input reads as it did. -/
def vtreeOfUptoRow : OpenClaim := { program := "ytnkbgimihikhoaa", sum := "53883102e4e6824725030a3893bd9b4bc3fa8fee7448a37734e122e22faa7f98", func := "topiary/topiarylaw15.VtreeOf", spec := "vtreeOf", unfollowed := true, recurses := true, plainKeys := false, apart := false, narrowed := true }
def VtreeOfUptoSaid : Prop := vtreeOfUptoRow.holds Try.pinned (OpenSpec.upto vtreeOfSpec)

/-- 'topiarylaw15.VtreeLive', WHERE WHAT IT READS IS OF BULK AT MOST 1048576: true; the input reads as it did. -/
def vtreeLiveUptoRow : OpenClaim := { program := "ytnkbgimihikhoaa", sum := "53883102e4e6824725030a3893bd9b4bc3fa8fee7448a37734e122e22faa7f98", func := "topiary/topiarylaw15.VtreeLive", spec := "vtreeLive", unfollowed := true, recurses := true, plainKeys := false, apart := false, narrowed := true }
def VtreeLiveUptoSaid : Prop := vtreeLiveUptoRow.holds Try.pinned (OpenSpec.upto vtreeLiveSpec)

/-- 'topiarylaw15.VtreeCopies', WHERE WHAT IT READS IS OF BULK AT MOST 1048576: true; the input reads as it did. -/
def vtreeCopiesUptoRow : OpenClaim := { program := "ytnkbgimihikhoaa", sum := "53883102e4e6824725030a3893bd9b4bc3fa8fee7448a37734e122e22faa7f98", func := "topiary/topiarylaw15.VtreeCopies", spec := "vtreeCopies", unfollowed := true, recurses := true, loops := true, plainKeys := false, apart := false, narrowed := true }
def VtreeCopiesUptoSaid : Prop := vtreeCopiesUptoRow.holds Try.pinned (OpenSpec.upto vtreeCopiesSpec)

/-- 'topiarylaw15.VtreeGoes', WHERE WHAT IT READS IS OF BULK AT MOST 1048576: true; the input reads as it did. -/
def vtreeGoesUptoRow : OpenClaim := { program := "ytnkbgimihikhoaa", sum := "53883102e4e6824725030a3893bd9b4bc3fa8fee7448a37734e122e22faa7f98", func := "topiary/topiarylaw15.VtreeGoes", spec := "vtreeGoes", unfollowed := true, recurses := true, loops := true, plainKeys := false, apart := false, narrowed := true }
def VtreeGoesUptoSaid : Prop := vtreeGoesUptoRow.holds Try.pinned (OpenSpec.upto vtreeGoesSpec)

/-- 'topiarylaw15.VtreeSames', WHERE WHAT IT READS IS OF BULK AT MOST 1048576: true; the input reads as it did. -/
def vtreeSamesUptoRow : OpenClaim := { program := "ytnkbgimihikhoaa", sum := "53883102e4e6824725030a3893bd9b4bc3fa8fee7448a37734e122e22faa7f98", func := "topiary/topiarylaw15.VtreeSames", spec := "vtreeSames", unfollowed := true, recurses := true, loops := true, plainKeys := false, apart := false, narrowed := true }
def VtreeSamesUptoSaid : Prop := vtreeSamesUptoRow.holds Try.pinned (OpenSpec.upto vtreeSamesSpec)

/-- 'topiarylaw15.VtreeAsks', WHERE WHAT IT READS IS OF BULK AT MOST 1048576: true; the input reads as it did. -/
def vtreeAsksUptoRow : OpenClaim := { program := "ytnkbgimihikhoaa", sum := "53883102e4e6824725030a3893bd9b4bc3fa8fee7448a37734e122e22faa7f98", func := "topiary/topiarylaw15.VtreeAsks", spec := "vtreeAsks", unfollowed := true, recurses := true, loops := true, plainKeys := false, apart := false, narrowed := true }
def VtreeAsksUptoSaid : Prop := vtreeAsksUptoRow.holds Try.pinned (OpenSpec.upto vtreeAsksSpec)

/-- 'topiarylaw15.VtreeFinds', WHERE WHAT IT READS IS OF BULK AT MOST 1048576: true; the input reads as it did. -/
def vtreeFindsUptoRow : OpenClaim := { program := "ytnkbgimihikhoaa", sum := "53883102e4e6824725030a3893bd9b4bc3fa8fee7448a37734e122e22faa7f98", func := "topiary/topiarylaw15.VtreeFinds", spec := "vtreeFinds", unfollowed := true, recurses := true, loops := true, plainKeys := false, apart := false, narrowed := true }
def VtreeFindsUptoSaid : Prop := vtreeFindsUptoRow.holds Try.pinned (OpenSpec.upto vtreeFindsSpec)

end Rows
end Go.Proofs.Ytnkbgimihikhoaa
