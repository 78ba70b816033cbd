/-
  No cell of these rows narrows 'for every input' (looked for: loops, veiled, ifaces, maps, wideKeys, modest, calm, conditions, laid).
  DERIVED. THE GIVEN ROWS OF THIS SEAT. 12 by the template 'for every input the law returns true; each argument reads behind the call as it read before'; 0 by the template 'total and deterministic' (their statements: YtnifikpldibbdaaTotals.lean).
  GIVEN WITH THE SEED: the statements are not yours to turn. If you find one false, say at which input.
  Laid BY PROGRAM, IN A SANDBOX (cutbox-rows.mjs): the forced cells as the released guide's own fill.sh prints them over the translation f420f581addaaf05… (all of the seat's roots in one cut). By AI agents, Wed Nov 11 2026. No macro, syntax, notation, axiom, sorry.
-/
import Derived.Test.YtnifikpldibbdaaChecked
import GoSem.Claim
import GoSem.ClaimJoined
import GoSem.ClaimMapViews
import Derived.JoinedTies
import Derived.KernelRfl
namespace Go.Proofs.Ytnifikpldibbdaa
/- THE CELL 'sum', in the pinned program and in every row, IS THE sha256 OF THE DUMP (.gsa) THAT YtnifikpldibbdaaProg.lean LOADS. Nothing in Lean hashes anything: it is a label: what it is worth is what the hold of that sum in a sandbox is worth. -/
noncomputable def Try.pinned : Pinned := { name := "ytnifikpldibbdaa", sum := "f420f581addaaf05c336c6bd41f8647b9f36c055f160cf4511c1513f69529c05", checked := Try.checked }
namespace Rows
def none {H : Type} : Left H := { results := [], args := [] }

/-- 'topiarylaw04.SealSums': WHATEVER THE INPUT: true; the input reads as it did. -/
def sealSumsSpec : ChangeSpec := { name := "sealSums", fn := fun _ => fun
  | [d] => { results := [.lit (.bool true)], args := [d] }
  | _ => none }
def sealSumsRow : OpenClaim := { program := "ytnifikpldibbdaa", sum := "f420f581addaaf05c336c6bd41f8647b9f36c055f160cf4511c1513f69529c05", func := "topiary/topiarylaw04.SealSums", spec := "sealSums", apart := false }
def SealSumsSaid : Prop := sealSumsRow.holds Try.pinned (OpenSpec.ofChange sealSumsSpec)

/-- ITS FALSE NEIGHBOUR: 'it returns false'. Refute it at one input. -/
def sealSumsWrong : ChangeSpec := { name := "sealSums", fn := fun _ => fun
  | [d] => { results := [.lit (.bool false)], args := [d] }
  | _ => none }
def SealSumsWrongFalsely : Prop := sealSumsRow.holds Try.pinned (OpenSpec.ofChange sealSumsWrong)

/-- 'topiarylaw04.SealFrames': WHATEVER THE INPUT: true; the input reads as it did. -/
def sealFramesSpec : ChangeSpec := { name := "sealFrames", fn := fun _ => fun
  | [d1, d2] => { results := [.lit (.bool true)], args := [d1, d2] }
  | _ => none }
def sealFramesRow : OpenClaim := { program := "ytnifikpldibbdaa", sum := "f420f581addaaf05c336c6bd41f8647b9f36c055f160cf4511c1513f69529c05", func := "topiary/topiarylaw04.SealFrames", spec := "sealFrames", apart := false }
def SealFramesSaid : Prop := sealFramesRow.holds Try.pinned (OpenSpec.ofChange sealFramesSpec)

/-- ITS FALSE NEIGHBOUR: 'it returns false'. Refute it at one input. -/
def sealFramesWrong : ChangeSpec := { name := "sealFrames", fn := fun _ => fun
  | [d1, d2] => { results := [.lit (.bool false)], args := [d1, d2] }
  | _ => none }
def SealFramesWrongFalsely : Prop := sealFramesRow.holds Try.pinned (OpenSpec.ofChange sealFramesWrong)

/-- 'topiarylaw04.SealSpoils': WHATEVER THE INPUT: true; the input reads as it did. -/
def sealSpoilsSpec : ChangeSpec := { name := "sealSpoils", fn := fun _ => fun
  | [d1, d2, d3] => { results := [.lit (.bool true)], args := [d1, d2, d3] }
  | _ => none }
def sealSpoilsRow : OpenClaim := { program := "ytnifikpldibbdaa", sum := "f420f581addaaf05c336c6bd41f8647b9f36c055f160cf4511c1513f69529c05", func := "topiary/topiarylaw04.SealSpoils", spec := "sealSpoils", apart := false }
def SealSpoilsSaid : Prop := sealSpoilsRow.holds Try.pinned (OpenSpec.ofChange sealSpoilsSpec)

/-- ITS FALSE NEIGHBOUR: 'it returns false'. Refute it at one input. -/
def sealSpoilsWrong : ChangeSpec := { name := "sealSpoils", fn := fun _ => fun
  | [d1, d2, d3] => { results := [.lit (.bool false)], args := [d1, d2, d3] }
  | _ => none }
def SealSpoilsWrongFalsely : Prop := sealSpoilsRow.holds Try.pinned (OpenSpec.ofChange sealSpoilsWrong)

/-- 'topiarylaw04.SealOpens': WHATEVER THE INPUT: true; the input reads as it did. -/
def sealOpensSpec : ChangeSpec := { name := "sealOpens", fn := fun _ => fun
  | [d] => { results := [.lit (.bool true)], args := [d] }
  | _ => none }
def sealOpensRow : OpenClaim := { program := "ytnifikpldibbdaa", sum := "f420f581addaaf05c336c6bd41f8647b9f36c055f160cf4511c1513f69529c05", func := "topiary/topiarylaw04.SealOpens", spec := "sealOpens", apart := false }
def SealOpensSaid : Prop := sealOpensRow.holds Try.pinned (OpenSpec.ofChange sealOpensSpec)

/-- ITS FALSE NEIGHBOUR: 'it returns false'. Refute it at one input. -/
def sealOpensWrong : ChangeSpec := { name := "sealOpens", fn := fun _ => fun
  | [d] => { results := [.lit (.bool false)], args := [d] }
  | _ => none }
def SealOpensWrongFalsely : Prop := sealOpensRow.holds Try.pinned (OpenSpec.ofChange sealOpensWrong)

/-- 'topiarylaw04.SealBack': WHATEVER THE INPUT: true; the input reads as it did. -/
def sealBackSpec : ChangeSpec := { name := "sealBack", fn := fun _ => fun
  | [d1, d2, d3] => { results := [.lit (.bool true)], args := [d1, d2, d3] }
  | _ => none }
def sealBackRow : OpenClaim := { program := "ytnifikpldibbdaa", sum := "f420f581addaaf05c336c6bd41f8647b9f36c055f160cf4511c1513f69529c05", func := "topiary/topiarylaw04.SealBack", spec := "sealBack", apart := false }
def SealBackSaid : Prop := sealBackRow.holds Try.pinned (OpenSpec.ofChange sealBackSpec)

/-- ITS FALSE NEIGHBOUR: 'it returns false'. Refute it at one input. -/
def sealBackWrong : ChangeSpec := { name := "sealBack", fn := fun _ => fun
  | [d1, d2, d3] => { results := [.lit (.bool false)], args := [d1, d2, d3] }
  | _ => none }
def SealBackWrongFalsely : Prop := sealBackRow.holds Try.pinned (OpenSpec.ofChange sealBackWrong)

/-- 'topiarylaw04.SealBursts': WHATEVER THE INPUT: true; the input reads as it did. -/
def sealBurstsSpec : ChangeSpec := { name := "sealBursts", fn := fun _ => fun
  | [d1, d2, d3] => { results := [.lit (.bool true)], args := [d1, d2, d3] }
  | _ => none }
def sealBurstsRow : OpenClaim := { program := "ytnifikpldibbdaa", sum := "f420f581addaaf05c336c6bd41f8647b9f36c055f160cf4511c1513f69529c05", func := "topiary/topiarylaw04.SealBursts", spec := "sealBursts", apart := false }
def SealBurstsSaid : Prop := sealBurstsRow.holds Try.pinned (OpenSpec.ofChange sealBurstsSpec)

/-- ITS FALSE NEIGHBOUR: 'it returns false'. Refute it at one input. -/
def sealBurstsWrong : ChangeSpec := { name := "sealBursts", fn := fun _ => fun
  | [d1, d2, d3] => { results := [.lit (.bool false)], args := [d1, d2, d3] }
  | _ => none }
def SealBurstsWrongFalsely : Prop := sealBurstsRow.holds Try.pinned (OpenSpec.ofChange sealBurstsWrong)

/-- 'topiarylaw04.SealCuts': WHATEVER THE INPUT: true; the input reads as it did. -/
def sealCutsSpec : ChangeSpec := { name := "sealCuts", fn := fun _ => fun
  | [d1, d2, d3] => { results := [.lit (.bool true)], args := [d1, d2, d3] }
  | _ => none }
def sealCutsRow : OpenClaim := { program := "ytnifikpldibbdaa", sum := "f420f581addaaf05c336c6bd41f8647b9f36c055f160cf4511c1513f69529c05", func := "topiary/topiarylaw04.SealCuts", spec := "sealCuts", apart := false }
def SealCutsSaid : Prop := sealCutsRow.holds Try.pinned (OpenSpec.ofChange sealCutsSpec)

/-- ITS FALSE NEIGHBOUR: 'it returns false'. Refute it at one input. -/
def sealCutsWrong : ChangeSpec := { name := "sealCuts", fn := fun _ => fun
  | [d1, d2, d3] => { results := [.lit (.bool false)], args := [d1, d2, d3] }
  | _ => none }
def SealCutsWrongFalsely : Prop := sealCutsRow.holds Try.pinned (OpenSpec.ofChange sealCutsWrong)

/-- 'topiarylaw16.LisParts': WHATEVER THE INPUT: true; the input reads as it did. -/
def lisPartsSpec : ChangeSpec := { name := "lisParts", fn := fun _ => fun
  | [d1, d2] => { results := [.lit (.bool true)], args := [d1, d2] }
  | _ => none }
def lisPartsRow : OpenClaim := { program := "ytnifikpldibbdaa", sum := "f420f581addaaf05c336c6bd41f8647b9f36c055f160cf4511c1513f69529c05", func := "topiary/topiarylaw16.LisParts", spec := "lisParts", unfollowed := true, recurses := true, apart := false }
def LisPartsSaid : Prop := lisPartsRow.holds Try.pinned (OpenSpec.ofChange lisPartsSpec)

/-- ITS FALSE NEIGHBOUR: 'it returns false'. Refute it at one input. -/
def lisPartsWrong : ChangeSpec := { name := "lisParts", fn := fun _ => fun
  | [d1, d2] => { results := [.lit (.bool false)], args := [d1, d2] }
  | _ => none }
def LisPartsWrongFalsely : Prop := lisPartsRow.holds Try.pinned (OpenSpec.ofChange lisPartsWrong)

/-- 'topiarylaw16.LisLongest': WHATEVER THE INPUT: true; the input reads as it did. -/
def lisLongestSpec : ChangeSpec := { name := "lisLongest", fn := fun _ => fun
  | [d1, d2] => { results := [.lit (.bool true)], args := [d1, d2] }
  | _ => none }
def lisLongestRow : OpenClaim := { program := "ytnifikpldibbdaa", sum := "f420f581addaaf05c336c6bd41f8647b9f36c055f160cf4511c1513f69529c05", func := "topiary/topiarylaw16.LisLongest", spec := "lisLongest", unfollowed := true, recurses := true, apart := false }
def LisLongestSaid : Prop := lisLongestRow.holds Try.pinned (OpenSpec.ofChange lisLongestSpec)

/-- ITS FALSE NEIGHBOUR: 'it returns false'. Refute it at one input. -/
def lisLongestWrong : ChangeSpec := { name := "lisLongest", fn := fun _ => fun
  | [d1, d2] => { results := [.lit (.bool false)], args := [d1, d2] }
  | _ => none }
def LisLongestWrongFalsely : Prop := lisLongestRow.holds Try.pinned (OpenSpec.ofChange lisLongestWrong)

/-- 'topiarylaw16.LisOrder': WHATEVER THE INPUT: true; the input reads as it did. -/
def lisOrderSpec : ChangeSpec := { name := "lisOrder", fn := fun _ => fun
  | [d] => { results := [.lit (.bool true)], args := [d] }
  | _ => none }
def lisOrderRow : OpenClaim := { program := "ytnifikpldibbdaa", sum := "f420f581addaaf05c336c6bd41f8647b9f36c055f160cf4511c1513f69529c05", func := "topiary/topiarylaw16.LisOrder", spec := "lisOrder", unfollowed := true, recurses := true, apart := false }
def LisOrderSaid : Prop := lisOrderRow.holds Try.pinned (OpenSpec.ofChange lisOrderSpec)

/-- ITS FALSE NEIGHBOUR: 'it returns false'. Refute it at one input. -/
def lisOrderWrong : ChangeSpec := { name := "lisOrder", fn := fun _ => fun
  | [d] => { results := [.lit (.bool false)], args := [d] }
  | _ => none }
def LisOrderWrongFalsely : Prop := lisOrderRow.holds Try.pinned (OpenSpec.ofChange lisOrderWrong)

/-- 'topiarylaw16.LisMore': WHATEVER THE INPUT: true; the input reads as it did. -/
def lisMoreSpec : ChangeSpec := { name := "lisMore", fn := fun _ => fun
  | [d1, d2] => { results := [.lit (.bool true)], args := [d1, d2] }
  | _ => none }
def lisMoreRow : OpenClaim := { program := "ytnifikpldibbdaa", sum := "f420f581addaaf05c336c6bd41f8647b9f36c055f160cf4511c1513f69529c05", func := "topiary/topiarylaw16.LisMore", spec := "lisMore", unfollowed := true, recurses := true, apart := false }
def LisMoreSaid : Prop := lisMoreRow.holds Try.pinned (OpenSpec.ofChange lisMoreSpec)

/-- ITS FALSE NEIGHBOUR: 'it returns false'. Refute it at one input. -/
def lisMoreWrong : ChangeSpec := { name := "lisMore", fn := fun _ => fun
  | [d1, d2] => { results := [.lit (.bool false)], args := [d1, d2] }
  | _ => none }
def LisMoreWrongFalsely : Prop := lisMoreRow.holds Try.pinned (OpenSpec.ofChange lisMoreWrong)

/-- 'topiarylaw16.LisEnds': WHATEVER THE INPUT: true; the input reads as it did. -/
def lisEndsSpec : ChangeSpec := { name := "lisEnds", fn := fun _ => fun
  | [d] => { results := [.lit (.bool true)], args := [d] }
  | _ => none }
def lisEndsRow : OpenClaim := { program := "ytnifikpldibbdaa", sum := "f420f581addaaf05c336c6bd41f8647b9f36c055f160cf4511c1513f69529c05", func := "topiary/topiarylaw16.LisEnds", spec := "lisEnds", unfollowed := true, recurses := true, apart := false }
def LisEndsSaid : Prop := lisEndsRow.holds Try.pinned (OpenSpec.ofChange lisEndsSpec)

/-- ITS FALSE NEIGHBOUR: 'it returns false'. Refute it at one input. -/
def lisEndsWrong : ChangeSpec := { name := "lisEnds", fn := fun _ => fun
  | [d] => { results := [.lit (.bool false)], args := [d] }
  | _ => none }
def LisEndsWrongFalsely : Prop := lisEndsRow.holds Try.pinned (OpenSpec.ofChange lisEndsWrong)

/- THE SECOND FORM. 'bulk': how many values and letters a reading holds, each counted each time it is reached (what is shared counts as often as it is met; a slice's spare places count too). A statement '..UptoSaid' is the law's where the arguments, and the package variables that the reading takes, are together of bulk at most 1048576: NARROWER than '..Said'. Prove '..Said' where nothing that the law and all that it calls make is longer than what came in: it says more and counts as full. Else prove '..UptoSaid'. A law counts once. -/
mutual
def uptoBulk {H : Type} : DataW H → Nat
  | .lit (.string bytes) => bytes.length + 1
  | .lit _ => 1
  | .nil => 1
  | .ptr d => uptoBulk d + 1
  | .slice elems spare => uptoBulkAll elems + uptoBulkAll spare + 1
  | .agg parts => uptoBulkAll parts + 1
  | .iface _ d => uptoBulk d + 1
  | .map entries => uptoBulkEntries entries + 1
  | .held _ => 1
def uptoBulkAll {H : Type} : List (DataW H) → Nat
  | [] => 0
  | d :: r => uptoBulk d + uptoBulkAll r
def uptoBulkEntries {H : Type} : List (Lit × DataW H) → Nat
  | [] => 0
  | x :: r => uptoBulkEntry x + uptoBulkEntries r
def uptoBulkEntry {H : Type} : Lit × DataW H → Nat
  | (.string bytes, d) => bytes.length + uptoBulk d + 1
  | (_, d) => uptoBulk d + 1
 end
def uptoSmall : (H : Type) → List (DataW H) → Bool := fun _ ds => decide (uptoBulkAll ds ≤ 1048576)
def OpenSpec.upto (s : _root_.Go.ChangeSpec) : _root_.Go.OpenSpec := { _root_.Go.OpenSpec.ofChange s with cond := some uptoSmall }

/-- 'topiarylaw04.SealSums', WHERE WHAT IT READS IS OF BULK AT MOST 1048576: true; the input reads as it did. -/
def sealSumsUptoRow : OpenClaim := { program := "ytnifikpldibbdaa", sum := "f420f581addaaf05c336c6bd41f8647b9f36c055f160cf4511c1513f69529c05", func := "topiary/topiarylaw04.SealSums", spec := "sealSums", apart := false, narrowed := true }
def SealSumsUptoSaid : Prop := sealSumsUptoRow.holds Try.pinned (OpenSpec.upto sealSumsSpec)

/-- 'topiarylaw04.SealFrames', WHERE WHAT IT READS IS OF BULK AT MOST 1048576: true; the input reads as it did. -/
def sealFramesUptoRow : OpenClaim := { program := "ytnifikpldibbdaa", sum := "f420f581addaaf05c336c6bd41f8647b9f36c055f160cf4511c1513f69529c05", func := "topiary/topiarylaw04.SealFrames", spec := "sealFrames", apart := false, narrowed := true }
def SealFramesUptoSaid : Prop := sealFramesUptoRow.holds Try.pinned (OpenSpec.upto sealFramesSpec)

/-- 'topiarylaw04.SealSpoils', WHERE WHAT IT READS IS OF BULK AT MOST 1048576: true; the input reads as it did. -/
def sealSpoilsUptoRow : OpenClaim := { program := "ytnifikpldibbdaa", sum := "f420f581addaaf05c336c6bd41f8647b9f36c055f160cf4511c1513f69529c05", func := "topiary/topiarylaw04.SealSpoils", spec := "sealSpoils", apart := false, narrowed := true }
def SealSpoilsUptoSaid : Prop := sealSpoilsUptoRow.holds Try.pinned (OpenSpec.upto sealSpoilsSpec)

/-- 'topiarylaw04.SealOpens', WHERE WHAT IT READS IS OF BULK AT MOST 1048576: true; the input reads as it did. -/
def sealOpensUptoRow : OpenClaim := { program := "ytnifikpldibbdaa", sum := "f420f581addaaf05c336c6bd41f8647b9f36c055f160cf4511c1513f69529c05", func := "topiary/topiarylaw04.SealOpens", spec := "sealOpens", apart := false, narrowed := true }
def SealOpensUptoSaid : Prop := sealOpensUptoRow.holds Try.pinned (OpenSpec.upto sealOpensSpec)

/-- 'topiarylaw04.SealBack', WHERE WHAT IT READS IS OF BULK AT MOST 1048576: true; the input reads as it did. -/
def sealBackUptoRow : OpenClaim := { program := "ytnifikpldibbdaa", sum := "f420f581addaaf05c336c6bd41f8647b9f36c055f160cf4511c1513f69529c05", func := "topiary/topiarylaw04.SealBack", spec := "sealBack", apart := false, narrowed := true }
def SealBackUptoSaid : Prop := sealBackUptoRow.holds Try.pinned (OpenSpec.upto sealBackSpec)

/-- 'topiarylaw04.SealBursts', WHERE WHAT IT READS IS OF BULK AT MOST 1048576: true; the input reads as it did. -/
def sealBurstsUptoRow : OpenClaim := { program := "ytnifikpldibbdaa", sum := "f420f581addaaf05c336c6bd41f8647b9f36c055f160cf4511c1513f69529c05", func := "topiary/topiarylaw04.SealBursts", spec := "sealBursts", apart := false, narrowed := true }
def SealBurstsUptoSaid : Prop := sealBurstsUptoRow.holds Try.pinned (OpenSpec.upto sealBurstsSpec)

/-- 'topiarylaw04.SealCuts', WHERE WHAT IT READS IS OF BULK AT MOST 1048576: true; the input reads as it did. -/
def sealCutsUptoRow : OpenClaim := { program := "ytnifikpldibbdaa", sum := "f420f581addaaf05c336c6bd41f8647b9f36c055f160cf4511c1513f69529c05", func := "topiary/topiarylaw04.SealCuts", spec := "sealCuts", apart := false, narrowed := true }
def SealCutsUptoSaid : Prop := sealCutsUptoRow.holds Try.pinned (OpenSpec.upto sealCutsSpec)

/-- 'topiarylaw16.LisParts', WHERE WHAT IT READS IS OF BULK AT MOST 1048576: true; the input reads as it did. -/
def lisPartsUptoRow : OpenClaim := { program := "ytnifikpldibbdaa", sum := "f420f581addaaf05c336c6bd41f8647b9f36c055f160cf4511c1513f69529c05", func := "topiary/topiarylaw16.LisParts", spec := "lisParts", unfollowed := true, recurses := true, apart := false, narrowed := true }
def LisPartsUptoSaid : Prop := lisPartsUptoRow.holds Try.pinned (OpenSpec.upto lisPartsSpec)

/-- 'topiarylaw16.LisLongest', WHERE WHAT IT READS IS OF BULK AT MOST 1048576: true; the input reads as it did. -/
def lisLongestUptoRow : OpenClaim := { program := "ytnifikpldibbdaa", sum := "f420f581addaaf05c336c6bd41f8647b9f36c055f160cf4511c1513f69529c05", func := "topiary/topiarylaw16.LisLongest", spec := "lisLongest", unfollowed := true, recurses := true, apart := false, narrowed := true }
def LisLongestUptoSaid : Prop := lisLongestUptoRow.holds Try.pinned (OpenSpec.upto lisLongestSpec)

/-- 'topiarylaw16.LisOrder', WHERE WHAT IT READS IS OF BULK AT MOST 1048576: true; the input reads as it did. -/
def lisOrderUptoRow : OpenClaim := { program := "ytnifikpldibbdaa", sum := "f420f581addaaf05c336c6bd41f8647b9f36c055f160cf4511c1513f69529c05", func := "topiary/topiarylaw16.LisOrder", spec := "lisOrder", unfollowed := true, recurses := true, apart := false, narrowed := true }
def LisOrderUptoSaid : Prop := lisOrderUptoRow.holds Try.pinned (OpenSpec.upto lisOrderSpec)

/-- 'topiarylaw16.LisMore', WHERE WHAT IT READS IS OF BULK AT MOST 1048576: true; the input reads as it did. -/
def lisMoreUptoRow : OpenClaim := { program := "ytnifikpldibbdaa", sum := "f420f581addaaf05c336c6bd41f8647b9f36c055f160cf4511c1513f69529c05", func := "topiary/topiarylaw16.LisMore", spec := "lisMore", unfollowed := true, recurses := true, apart := false, narrowed := true }
def LisMoreUptoSaid : Prop := lisMoreUptoRow.holds Try.pinned (OpenSpec.upto lisMoreSpec)

/-- 'topiarylaw16.LisEnds', WHERE WHAT IT READS IS OF BULK AT MOST 1048576: true; the input reads as it did. -/
def lisEndsUptoRow : OpenClaim := { program := "ytnifikpldibbdaa", sum := "f420f581addaaf05c336c6bd41f8647b9f36c055f160cf4511c1513f69529c05", func := "topiary/topiarylaw16.LisEnds", spec := "lisEnds", unfollowed := true, recurses := true, apart := false, narrowed := true }
def LisEndsUptoSaid : Prop := lisEndsUptoRow.holds Try.pinned (OpenSpec.upto lisEndsSpec)

end Rows
end Go.Proofs.Ytnifikpldibbdaa
