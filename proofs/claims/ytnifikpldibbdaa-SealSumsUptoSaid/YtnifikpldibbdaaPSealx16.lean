/- Written by a program of this session's own (wip/tools): functions of the program told as plain Lean functions, each with its contract, or the row of a statement out of its pure form. -/
import Derived.Test.YtnifikpldibbdaaPSealx0
import Derived.Test.YtnifikpldibbdaaPSealx1
import Derived.Test.YtnifikpldibbdaaPSealx15
namespace Go.Proofs.Ytnifikpldibbdaa.PSeal
open Go.RowKit Go.Proofs.YtnifikpldibbdaaW.PrintWords Go.Proofs.YtnifikpldibbdaaW.PrintLast Go.Proofs.YtnifikpldibbdaaW.PrintMore
attribute [local go_sem] max2_int min2_int max_two min_two max_three min_three max_four min_four   -- for this text's walks alone
set_option linter.unusedVariables false
set_option linter.unusedSimpArgs false


/-! ### seal_Open: function 22 -/
def seal_Open.f (k : Nat) (l0 : List Int) : Option (Int × List Int × Int) :=
  if (l0.length : Int) < 9 then some (0, ([] : List Int), 2)
  else if rd l0 0 < 1 then some (0, ([] : List Int), 2)
  else if rd l0 0 > 15 then some (0, ([] : List Int), 2)
  else (seal_number.f (l0.drop 1)).bind fun n =>
    if n > 65536 then some (0, ([] : List Int), 2)
    else if n ≠ (l0.length : Int) - 9 then some (0, ([] : List Int), 2)
    else (seal_number.f (l0.drop (l0.length - 4))).bind fun s => (seal_Sum.f k [l0.take (l0.length - 4)]).bind fun t =>
      if s = t then some (rd l0 0, (l0.take (l0.length - 4)).drop 5, 0) else some (0, ([] : List Int), 9)
theorem seal_Open.mono : ∀ a0 k, LeO (seal_Open.f k a0) (seal_Open.f (k + 1) a0) := by
  intro a0 k
  unfold seal_Open.f
  repeat' first
      | (with_reducible exact seal_Sum.mono _ _)
      | (with_reducible exact LeO.refl _)
      | (with_reducible exact LeO.none _)
      | (with_reducible refine LeO.ite ?_ ?_)
      | (with_reducible refine LeO.bind ?_ (fun _ => ?_))

end Go.Proofs.Ytnifikpldibbdaa.PSeal
