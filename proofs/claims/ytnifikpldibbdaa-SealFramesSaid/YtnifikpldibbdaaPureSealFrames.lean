/- The frame that the program makes of any load is the document's. -/
import Derived.Test.YtnifikpldibbdaaPSealx9
import Derived.Test.YtnifikpldibbdaaSLaw
namespace Go.Proofs.Ytnifikpldibbdaa.Pure
open Go.RowKit Go.Proofs.Ytnifikpldibbdaa.PSeal Go.Proofs.YtnifikpldibbdaaW.PrintWords Go.Proofs.YtnifikpldibbdaaW.PrintLast
theorem SealFrames : topiarylaw04_SealFrames.Pure := by
  intro a l _ _ _ _
  obtain ⟨K1, h1⟩ := ev_seal a l
  obtain ⟨K2, h2⟩ := ev_refseal a l
  obtain ⟨K3, h3⟩ := ev_awake
  refine ⟨max K1 (max K2 K3), ?_⟩
  have e1 := h1 (max K1 (max K2 K3)) (by omega)
  have e2 := h2 (max K1 (max K2 K3)) (by omega)
  have e3 := h3 (max K1 (max K2 K3)) (by omega)
  dsimp only at e1 e2 e3
  unfold topiarylaw04_SealFrames.f
  rw [e1, e2, e3, Option.bind_some, Option.bind_some, if_pos rfl, if_pos rfl]
  rfl
end Go.Proofs.Ytnifikpldibbdaa.Pure
