/- Written by a program of this session's own (wip/tools): functions of the program told as plain Lean functions, each with its contract, or the row of a statement out of its pure form. -/
import Derived.Test.YtnifikpldibbdaaPSealx0
import Derived.Test.YtnifikpldibbdaaPSealx1
import Derived.Test.YtnifikpldibbdaaPSealx2
import Derived.Test.YtnifikpldibbdaaPSealx7
namespace Go.Proofs.Ytnifikpldibbdaa.PSeal
open Go.RowKit Go.Proofs.YtnifikpldibbdaaW.PrintWords Go.Proofs.YtnifikpldibbdaaW.PrintLast Go.Proofs.YtnifikpldibbdaaW.PrintMore
attribute [local go_sem] max2_int min2_int max_two min_two max_three min_three max_four min_four   -- for this text's walks alone
set_option linter.unusedVariables false
set_option linter.unusedSimpArgs false

/-! ### topiarylaw04_SealSums: function 3 -/
def topiarylaw04_SealSums.l0 : Nat → List (List Int) → List Int → Int → Option (Bool)
  | 0, _, _, _ => none
  | k + 1, x0, x3, x4 => if x4 < (x0.length : Int) then (if 0 ≤ x4 then (if x3.length + (rd_L1 x0 x4).length < 140737488355328 then (topiarylaw04_SealSums.l0 k x0 (x3 ++ (rd_L1 x0 x4)) (wrap64 (x4 + 1))) else (none)) else (none)) else ((seal_Sum.f k x0).bind fun t171 => ((topiaryref04_Sum.f k x3).bind fun t172 => (if t171 = t172 then ((seal_Sum.f k (([x3] : List (List Int)))).bind fun t176 => ((topiaryref04_Sum.f k x3).bind fun t177 => (if t176 = t177 then ((topiarylaw04_awake.f k).bind fun t178 => (some t178)) else (some false)))) else (some false))))
def topiarylaw04_SealSums.f (k : Nat) (l0 : List (List Int)) : Option (Bool) := topiarylaw04_SealSums.l0 k l0 ([] : List Int) 0
theorem topiarylaw04_SealSums.mono_l : ∀ k, (∀ y0 y1 y2, LeO (topiarylaw04_SealSums.l0 k y0 y1 y2) (topiarylaw04_SealSums.l0 (k + 1) y0 y1 y2))
  | 0 => fun _ _ _ r h => by simp [topiarylaw04_SealSums.l0] at h
  | k + 1 => by
    have ih0 := topiarylaw04_SealSums.mono_l k
    · intro y0 y1 y2
      unfold topiarylaw04_SealSums.l0
      repeat' first
      | (with_reducible exact ih0 _ _ _)
      | (with_reducible exact seal_Sum.mono _ _)
      | (with_reducible exact topiarylaw04_awake.mono _)
      | (with_reducible exact topiaryref04_Sum.mono _ _)
      | (with_reducible exact LeO.refl _)
      | (with_reducible exact LeO.none _)
      | (with_reducible refine LeO.ite ?_ ?_)
      | (with_reducible refine LeO.bind ?_ (fun _ => ?_))
      | exact ih0 _ _ _
      | exact seal_Sum.mono _ _
      | exact topiarylaw04_awake.mono _
      | exact topiaryref04_Sum.mono _ _
      | exact LeO.none _
      | refine LeO.ite ?_ ?_
      | refine LeO.bind ?_ (fun _ => ?_)
theorem topiarylaw04_SealSums.mono : ∀ a0 k, LeO (topiarylaw04_SealSums.f k a0) (topiarylaw04_SealSums.f (k + 1) a0) := by
  intro a0 k
  have ih0 := topiarylaw04_SealSums.mono_l k
  unfold topiarylaw04_SealSums.f
  repeat' first
      | (with_reducible exact ih0 _ _ _)
      | (with_reducible exact seal_Sum.mono _ _)
      | (with_reducible exact topiarylaw04_awake.mono _)
      | (with_reducible exact topiaryref04_Sum.mono _ _)
      | (with_reducible exact LeO.refl _)
      | (with_reducible exact LeO.none _)
      | (with_reducible refine LeO.ite ?_ ?_)
      | (with_reducible refine LeO.bind ?_ (fun _ => ?_))
      | exact ih0 _ _ _
      | exact seal_Sum.mono _ _
      | exact topiarylaw04_awake.mono _
      | exact topiaryref04_Sum.mono _ _
      | exact LeO.none _
      | refine LeO.ite ?_ ?_
      | refine LeO.bind ?_ (fun _ => ?_)

end Go.Proofs.Ytnifikpldibbdaa.PSeal
