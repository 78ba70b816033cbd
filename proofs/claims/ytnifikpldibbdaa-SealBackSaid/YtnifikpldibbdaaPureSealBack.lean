/- What was sealed is opened; what can be opened is what would be sealed. -/
import Derived.Test.YtnifikpldibbdaaPSealx18
import Derived.Test.YtnifikpldibbdaaSBack
namespace Go.Proofs.Ytnifikpldibbdaa.Pure
open Go.RowKit Go.Proofs.Ytnifikpldibbdaa.PSeal Go.Proofs.YtnifikpldibbdaaW.PrintWords Go.Proofs.YtnifikpldibbdaaW.PrintLast
theorem SealBack : topiarylaw04_SealBack.Pure := by
  intro a l p _ _ hl0 hw0 _ hp0 hpw0
  have hw := wfb_of hw0
  have hpw := wfb_of hpw0
  obtain ⟨K1, h1⟩ := ev_seal a l
  obtain ⟨K2, h2⟩ := ev_open hpw (by omega)
  obtain ⟨K3, h3⟩ := ev_awake
  obtain ⟨K4, h4⟩ := ev_seal (openS p).1 (openS p).2.1
  have h5 : ∃ K5, ∀ k, K5 ≤ k → (sealS a l).2 = 0 → seal_Open.f k (sealS a l).1 = some (a, l, 0) := by
    unfold sealS
    by_cases g1 : a < 1 ∨ a > 15
    · exact ⟨0, fun k _ h => by rw [if_pos g1] at h; cases h⟩
    by_cases g2 : l.length > 65536
    · exact ⟨0, fun k _ h => by rw [if_neg g1, if_pos g2] at h; cases h⟩
    rw [if_neg g1, if_neg g2]
    obtain ⟨K, hK⟩ := ev_open (frame_wf a hw) (by rw [frame_len]; omega)
    refine ⟨K, fun k hk _ => ?_⟩
    have := hK k hk
    dsimp only at this
    rw [open_frame (by omega) (by omega) (by omega)] at this
    exact this
  obtain ⟨K5, h5⟩ := h5
  obtain ⟨k, hk1, hk2, hk3, hk4, hk5⟩ : ∃ k, K1 ≤ k ∧ K2 ≤ k ∧ K3 ≤ k ∧ K4 ≤ k ∧ K5 ≤ k := ⟨K1 + K2 + K3 + K4 + K5, by omega, by omega, by omega, by omega, by omega⟩
  have hj : topiarylaw04_SealBack.j0 (k + 1) p = some true := by
    have e2 := h2 k hk2
    have e3 := h3 k hk3
    have e4 := h4 k hk4
    dsimp only at e2 e3 e4
    simp only [topiarylaw04_SealBack.j0]
    rw [e2, Option.bind_some]
    by_cases g : (openS p).2.2 = 0
    · rw [if_pos g, e4, Option.bind_some, frame_open hpw g, if_pos rfl, if_pos rfl, e3]
      rfl
    · rw [if_neg g, e3]
      rfl
  refine ⟨k + 1, ?_⟩
  have e1 := h1 (k + 1) (by omega)
  have e5 := h5 (k + 1) (by omega)
  dsimp only at e1
  unfold topiarylaw04_SealBack.f
  rw [e1, Option.bind_some]
  by_cases g : (sealS a l).2 = 0
  · rw [if_pos g, e5 g, Option.bind_some, if_pos rfl, if_pos rfl, if_pos rfl, hj]
  · rw [if_neg g, hj]
end Go.Proofs.Ytnifikpldibbdaa.Pure
