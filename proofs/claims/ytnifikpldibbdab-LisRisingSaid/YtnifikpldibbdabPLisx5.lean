/- Written by a program of this session's own (wip/tools): functions of the program told as plain Lean functions, each with its contract, or the row of a statement out of its pure form. -/
import Derived.Test.YtnifikpldibbdabPLisx0
import Derived.Test.YtnifikpldibbdabLisPlain
namespace Go.Proofs.Ytnifikpldibbdab.PLis
open Go.RowKit Go.Proofs.YtnifikpldibbdabW.PrintWords Go.Proofs.YtnifikpldibbdabW.PrintLast Go.Proofs.YtnifikpldibbdabW.PrintMore
attribute [local go_sem] max2_int min2_int max_two min_two max_three min_three max_four min_four   -- for this text's walks alone
set_option linter.unusedVariables false
set_option linter.unusedSimpArgs false


/-! ### lis_lengths: function 14 -/
-- import Derived.Test.YtnifikpldibbdabLisPlain
def lis_lengths.f (k : Nat) (l0 : List Int) : Option (List Int) := if l0.length ≤ 17592186044416 then some (LisPlain.lens l0) else none
theorem lis_lengths.mono : ∀ a0 k, LeO (lis_lengths.f k a0) (lis_lengths.f (k + 1) a0) := fun _ _ => LeO.refl _

end Go.Proofs.Ytnifikpldibbdab.PLis
