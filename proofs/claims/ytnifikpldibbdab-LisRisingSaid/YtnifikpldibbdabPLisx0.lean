/- Written by a program of this session's own (wip/tools): functions of the program told as plain Lean functions, each with its contract, or the row of a statement out of its pure form. -/
import Derived.Test.YtnifikpldibbdabProg
import Derived.Below
import Derived.Deep.Draws
import Derived.Deep.AppendLies
import Derived.Maps.AppendAt
import Derived.OwnWalk
import Derived.Laws.BytesArg
import Derived.Laws.MakeOwn
import Derived.Laws.OwnMore
import Derived.Deep.OwnRows
import Derived.Tactics
import Derived.Lib.ConvBytes
import Derived.Laws.Slices
import Derived.WalkKit
import Derived.KernelRfl
import Derived.RowKit3
import Derived.Deep.LoopGhost
import Derived.Deep.QuietTactic
import Derived.BigQuiet
import Derived.WideLaws
import Derived.Deep.DeepCutAuto
import Derived.Deep.CutBlock
import Derived.Deep.RegionHeld3
import Derived.Laws.Rows
import Derived.Lib.AppendStr
import Derived.ArgAppend
import Derived.Laws.IdiomCopy
import Derived.OrdersHeld
import Derived.Laws.BitsLemmas
import Derived.RowKit
import Derived.Test.YtnifikpldibbdabWWords
import Derived.Test.YtnifikpldibbdabWLast
import Derived.Test.YtnifikpldibbdabWTab
import Derived.Test.YtnifikpldibbdabWFour
import Derived.Test.YtnifikpldibbdabWQPut
import Derived.Test.YtnifikpldibbdabWApart
import Derived.Test.YtnifikpldibbdabWArr
import Derived.Test.YtnifikpldibbdabWZeros
import Derived.Test.YtnifikpldibbdabWFoot
import Derived.Test.YtnifikpldibbdabWKept
import Derived.Test.YtnifikpldibbdabWShare
import Derived.Test.YtnifikpldibbdabWN
import Derived.Test.YtnifikpldibbdabWFootNe
import Derived.Test.YtnifikpldibbdabWAt
import Derived.Test.YtnifikpldibbdabWEqStruct
import Derived.Test.YtnifikpldibbdabWRepsOne
import Derived.Test.YtnifikpldibbdabWInv
import Derived.Test.YtnifikpldibbdabWInvWords
import Derived.Test.YtnifikpldibbdabWGuard
import Derived.Test.YtnifikpldibbdabWNEv
import Derived.Test.YtnifikpldibbdabWMore
namespace Go.Proofs.Ytnifikpldibbdab.PLis
open Go.RowKit Go.Proofs.YtnifikpldibbdabW.PrintWords Go.Proofs.YtnifikpldibbdabW.PrintLast Go.Proofs.YtnifikpldibbdabW.PrintMore
attribute [local go_sem] max2_int min2_int max_two min_two max_three min_three max_four min_four   -- for this text's walks alone
set_option linter.unusedVariables false
set_option linter.unusedSimpArgs false



def errW : Option Int → Value
  | none => .nilIface
  | some c => .iface 0 (.int .i64 c)
theorem errW_none : errW none = .nilIface := rfl
theorem errW_some (c : Int) : errW (some c) = .iface 0 (.int .i64 c) := rfl

theorem info3 : (Try.prog.info? 3).map (fun i => (i.zero, i.size, i.bytes)) = some (some (.int .i64 0), 1, 8) := by kernel_rfl
-- the values' own types

end Go.Proofs.Ytnifikpldibbdab.PLis
