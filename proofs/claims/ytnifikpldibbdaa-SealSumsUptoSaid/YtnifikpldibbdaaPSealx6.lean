/- Written by a program of this session's own (wip/tools): functions of the program told as plain Lean functions, each with its contract, or the row of a statement out of its pure form. -/
import Derived.Test.YtnifikpldibbdaaPSealx0
import Derived.Test.YtnifikpldibbdaaPSealx2
import Derived.Test.YtnifikpldibbdaaPSealx3
namespace Go.Proofs.Ytnifikpldibbdaa.PSeal
open Go.RowKit Go.Proofs.YtnifikpldibbdaaW.PrintWords Go.Proofs.YtnifikpldibbdaaW.PrintLast Go.Proofs.YtnifikpldibbdaaW.PrintMore
attribute [local go_sem] max2_int min2_int max_two min_two max_three min_three max_four min_four   -- for this text's walks alone
set_option linter.unusedVariables false
set_option linter.unusedSimpArgs false

/-! ### seal_Seal: function 18 -/
def seal_Seal.j0 : Nat → Int → List Int → Bool → Option (List Int × Int)
  | 0, _, _, _ => none
  | k + 1, x0, x1, x13 => if x13 = true then (some (([] : List Int), 1)) else (if (x1.length : Int) > 65536 then (some (([] : List Int), 3)) else ((some (([(x0) % 256] : List Int) : List Int)).bind fun y129 => ((topiaryref04_Four.f (((x1.length : Int)) % 4294967296)).bind fun t132 => (if y129.length + t132.length < 140737488355328 then ((some (y129 ++ t132 : List Int)).bind fun y135 => (if y135.length + x1.length < 140737488355328 then ((some (y135 ++ x1 : List Int)).bind fun y138 => ((topiaryref04_Sum.f k y138).bind fun t141 => ((topiaryref04_Four.f t141).bind fun t142 => (if y138.length + t142.length < 140737488355328 then (some ((y138 ++ t142), 0)) else (none))))) else (none))) else (none)))))
def seal_Seal.f (k : Nat) (a0 : Int) (l1 : List Int) : Option (List Int × Int) := if a0 < 1 then (seal_Seal.j0 k a0 l1 true) else (seal_Seal.j0 k a0 l1 (decide (a0 > 15)))
theorem seal_Seal.mono_l : ∀ k, (∀ y0 y1 y2, LeO (seal_Seal.j0 k y0 y1 y2) (seal_Seal.j0 (k + 1) y0 y1 y2))
  | 0 => fun _ _ _ r h => by simp [seal_Seal.j0] at h
  | k + 1 => by
    have ih0 := seal_Seal.mono_l k
    · intro y0 y1 y2
      unfold seal_Seal.j0
      repeat' first
      | (with_reducible exact ih0 _ _ _)
      | (with_reducible exact topiaryref04_Sum.mono _ _)
      | (with_reducible exact LeO.refl _)
      | (with_reducible exact LeO.none _)
      | (with_reducible refine LeO.ite ?_ ?_)
      | (with_reducible refine LeO.bind ?_ (fun _ => ?_))
      | exact ih0 _ _ _
      | exact topiaryref04_Sum.mono _ _
      | exact LeO.none _
      | refine LeO.ite ?_ ?_
      | refine LeO.bind ?_ (fun _ => ?_)
theorem seal_Seal.mono : ∀ a0 a1 k, LeO (seal_Seal.f k a0 a1) (seal_Seal.f (k + 1) a0 a1) := by
  intro a0 a1 k
  have ih0 := seal_Seal.mono_l k
  unfold seal_Seal.f
  repeat' first
      | (with_reducible exact ih0 _ _ _)
      | (with_reducible exact topiaryref04_Sum.mono _ _)
      | (with_reducible exact LeO.refl _)
      | (with_reducible exact LeO.none _)
      | (with_reducible refine LeO.ite ?_ ?_)
      | (with_reducible refine LeO.bind ?_ (fun _ => ?_))
      | exact ih0 _ _ _
      | exact topiaryref04_Sum.mono _ _
      | exact LeO.none _
      | refine LeO.ite ?_ ?_
      | refine LeO.bind ?_ (fun _ => ?_)

end Go.Proofs.Ytnifikpldibbdaa.PSeal
