/- Written by a program of this session's own (wip/tools): functions of the program told as plain Lean functions, each with its contract, or the row of a statement out of its pure form. -/
import Derived.Test.YtnifikpldibbdaaPSealx0
import Derived.Test.YtnifikpldibbdaaPSealx1
import Derived.Test.YtnifikpldibbdaaPSealx6
namespace Go.Proofs.Ytnifikpldibbdaa.PSeal
open Go.RowKit Go.Proofs.YtnifikpldibbdaaW.PrintWords Go.Proofs.YtnifikpldibbdaaW.PrintLast Go.Proofs.YtnifikpldibbdaaW.PrintMore
attribute [local go_sem] max2_int min2_int max_two min_two max_three min_three max_four min_four   -- for this text's walks alone
set_option linter.unusedVariables false
set_option linter.unusedSimpArgs false

/-! ### topiarylaw04_awake: function 17 -/
def topiarylaw04_awake.f (k : Nat)  : Option (Bool) := (seal_Seal.f k 2 (([97] : List Int))).bind fun bt151 => (if bt151.2 = 0 then (if (bt151.1.length : Int) = 10 then (if 0 < (bt151.1.length : Int) then (if (rd bt151.1 0) = 2 then (if 5 < (bt151.1.length : Int) then (if (rd bt151.1 5) = 97 then ((seal_Sum.f k (([(([49, 50, 51, 52] : List Int)), (([53, 54, 55, 56, 57] : List Int))] : List (List Int)))).bind fun t166 => (some (t166 == 3421780262))) else (some false)) else (none)) else (some false)) else (none)) else (some false)) else (some false))
theorem topiarylaw04_awake.mono : ∀ k, LeO (topiarylaw04_awake.f k ) (topiarylaw04_awake.f (k + 1) ) := by
  intro  k
  unfold topiarylaw04_awake.f
  repeat' first
      | (with_reducible exact seal_Seal.mono _ _ _)
      | (with_reducible exact seal_Sum.mono _ _)
      | (with_reducible exact LeO.refl _)
      | (with_reducible exact LeO.none _)
      | (with_reducible refine LeO.ite ?_ ?_)
      | (with_reducible refine LeO.bind ?_ (fun _ => ?_))
      | exact seal_Seal.mono _ _ _
      | exact seal_Sum.mono _ _
      | exact LeO.none _
      | refine LeO.ite ?_ ?_
      | refine LeO.bind ?_ (fun _ => ?_)

end Go.Proofs.Ytnifikpldibbdaa.PSeal
