/- Written by a program of this session's own (wip/tools): functions of the program told as plain Lean functions, each with its contract, or the row of a statement out of its pure form. -/
import Derived.Test.YtnifikpldibbdaaPSealx0
import Derived.Test.YtnifikpldibbdaaPSealx2
import Derived.Test.YtnifikpldibbdaaPSealx3
import Derived.Test.YtnifikpldibbdaaPSealx13
namespace Go.Proofs.Ytnifikpldibbdaa.PSeal
open Go.RowKit Go.Proofs.YtnifikpldibbdaaW.PrintWords Go.Proofs.YtnifikpldibbdaaW.PrintLast Go.Proofs.YtnifikpldibbdaaW.PrintMore
attribute [local go_sem] max2_int min2_int max_two min_two max_three min_three max_four min_four   -- for this text's walks alone
set_option linter.unusedVariables false
set_option linter.unusedSimpArgs false

/-! ### topiaryref04_Open: function 23 -/
def topiaryref04_Open.j0 : Nat → List Int → Bool → Option (Int × List Int × Int)
  | 0, _, _ => none
  | k + 1, x0, x34 => if x34 = true then (some (0, ([] : List Int), 2)) else (if 0 ≤ (wrap64 ((x0.length : Int) - 4)) then (if (wrap64 ((x0.length : Int) - 4)) ≤ (x0.length : Int) then ((topiaryref04_Sum.f k (x0.take ((wrap64 ((x0.length : Int) - 4)) : Int).toNat)).bind fun t230 => ((topiaryref04_Four.f t230).bind fun t231 => (if (strOfNums t231).toList = (strOfNums (x0.drop ((wrap64 ((x0.length : Int) - 4)) : Int).toNat)).toList then (if 0 < (x0.length : Int) then ((some (([] : List Int) : List Int)).bind fun y236 => (if 5 ≤ (wrap64 ((x0.length : Int) - 4)) then (if y236.length + ((x0.take ((wrap64 ((x0.length : Int) - 4)) : Int).toNat).drop 5).length < 140737488355328 then (some (wrap64 (rd x0 0), (y236 ++ ((x0.take ((wrap64 ((x0.length : Int) - 4)) : Int).toNat).drop 5)), 0)) else (none)) else (none))) else (none)) else (some (0, ([] : List Int), 9))))) else (none)) else (none))
def topiaryref04_Open.f (k : Nat) (l0 : List Int) : Option (Int × List Int × Int) := if (l0.length : Int) < 9 then (topiaryref04_Open.j0 k l0 true) else (if 0 < (l0.length : Int) then (if (rd l0 0) < 1 then (topiaryref04_Open.j0 k l0 true) else (if (rd l0 0) > 15 then (topiaryref04_Open.j0 k l0 true) else (if 1 ≤ 5 then (if 5 ≤ (l0.length : Int) then ((topiaryref04_Number.f ((l0.take 5).drop 1)).bind fun t226 => (if t226 > 65536 then (topiaryref04_Open.j0 k l0 true) else ((topiaryref04_Number.f ((l0.take 5).drop 1)).bind fun t228 => (topiaryref04_Open.j0 k l0 (t228 != (wrap64 ((l0.length : Int) - 9))))))) else (none)) else (none)))) else (none))
theorem topiaryref04_Open.mono_l : ∀ k, (∀ y0 y1, LeO (topiaryref04_Open.j0 k y0 y1) (topiaryref04_Open.j0 (k + 1) y0 y1))
  | 0 => fun _ _ r h => by simp [topiaryref04_Open.j0] at h
  | k + 1 => by
    have ih0 := topiaryref04_Open.mono_l k
    · intro y0 y1
      unfold topiaryref04_Open.j0
      repeat' first
      | (with_reducible exact ih0 _ _)
      | (with_reducible exact topiaryref04_Sum.mono _ _)
      | (with_reducible exact LeO.refl _)
      | (with_reducible exact LeO.none _)
      | (with_reducible refine LeO.ite ?_ ?_)
      | (with_reducible refine LeO.bind ?_ (fun _ => ?_))
      | exact ih0 _ _
      | exact topiaryref04_Sum.mono _ _
      | exact LeO.none _
      | refine LeO.ite ?_ ?_
      | refine LeO.bind ?_ (fun _ => ?_)
theorem topiaryref04_Open.mono : ∀ a0 k, LeO (topiaryref04_Open.f k a0) (topiaryref04_Open.f (k + 1) a0) := by
  intro a0 k
  have ih0 := topiaryref04_Open.mono_l k
  unfold topiaryref04_Open.f
  repeat' first
      | (with_reducible exact ih0 _ _)
      | (with_reducible exact topiaryref04_Sum.mono _ _)
      | (with_reducible exact LeO.refl _)
      | (with_reducible exact LeO.none _)
      | (with_reducible refine LeO.ite ?_ ?_)
      | (with_reducible refine LeO.bind ?_ (fun _ => ?_))
      | exact ih0 _ _
      | exact topiaryref04_Sum.mono _ _
      | exact LeO.none _
      | refine LeO.ite ?_ ?_
      | refine LeO.bind ?_ (fun _ => ?_)
def topiaryref04_Open.T3 : Bool × List (List Nat × List Nat) := (true, [([], []), ([], []), ([1], [1]), ([2], [2]), ([0, 3], [0, 3]), ([4], [4]), ([5, 5], [5]), ([6], [6]), ([], []), ([], []), ([9], [9]), ([10], [10]), ([8, 11], [8, 11]), ([12], [12]), ([7, 13], [7, 13])])
def topiaryref04_Open.B3 : List Nat := [0, 0, 2, 6, 15, 31, 63, 127, 0, 0, 512, 1536, 3840, 7936, 16383]

end Go.Proofs.Ytnifikpldibbdaa.PSeal
