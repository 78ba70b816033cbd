/- lis.Is is its reference. -/
import Derived.Test.YtnifikpldibbdaaLisLoops
namespace Go.Proofs.Ytnifikpldibbdaa.Pure
open Go.RowKit Go.Proofs.Ytnifikpldibbdaa.PLis Go.Proofs.YtnifikpldibbdaaW.PrintWords Go.Proofs.YtnifikpldibbdaaW.PrintLast LisPlain
theorem LisParts : topiarylaw16_LisParts.Pure := by
  intro l0 l1 _ hl0 _ _ hl1 _
  refine ⟨2 * l1.length + 4, ?_⟩
  unfold topiarylaw16_LisParts.f
  rw [is_at _ _ (by omega) _ (by omega), Option.bind_some, ref_at _ _ (by omega) _ (by omega), Option.bind_some, if_pos (by simp), awake_at _ (by omega)]
  rfl
end Go.Proofs.Ytnifikpldibbdaa.Pure
