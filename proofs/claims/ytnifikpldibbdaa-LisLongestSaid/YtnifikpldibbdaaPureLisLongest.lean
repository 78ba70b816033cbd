/- No rising part is longer, and none as long is ahead of it. -/
import Derived.Test.YtnifikpldibbdaaLisLoops
namespace Go.Proofs.Ytnifikpldibbdaa.Pure
open Go.RowKit Go.Proofs.Ytnifikpldibbdaa.PLis Go.Proofs.YtnifikpldibbdaaW.PrintWords Go.Proofs.YtnifikpldibbdaaW.PrintLast LisPlain
theorem LisLongest : topiarylaw16_LisLongest.Pure := by
  intro l0 l1 _ hl0 _ _ hl1 _
  have hr : (rising l0).length ≤ l0.length := by rw [rising_length]; exact need_len l0
  refine ⟨2 * l1.length + 2 * l0.length + 10, ?_⟩
  have ha := awake_at (2 * l1.length + 2 * l0.length + 10) (by omega)
  unfold topiarylaw16_LisLongest.f
  rw [rising_at _ _ (by omega), Option.bind_some, ref_at _ _ (by omega) _ (by omega), Option.bind_some, isB_rising, if_pos rfl, ref_at _ _ (by omega) _ (by omega), Option.bind_some, ha]
  cases hb : isB l0 none l1 with
  | false => rfl
  | true =>
    rw [if_pos rfl]
    have hR := isB_none.1 hb
    have hm := rising_most l0 l1 hR
    by_cases he : l1.length = (rising l0).length
    · rw [if_pos (by omega), ahead_at _ _ (by omega) _ (by omega), rising_least l0 l1 hR he]
      rfl
    · rw [if_neg (by omega), if_pos (by omega)]
      rfl
end Go.Proofs.Ytnifikpldibbdaa.Pure
