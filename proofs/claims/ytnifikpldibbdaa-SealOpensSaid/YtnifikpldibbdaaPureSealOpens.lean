/- What any bytes are as a frame: the program says what the document says, and hands back bytes of their own. -/
import Derived.Test.YtnifikpldibbdaaPSealx17
import Derived.Test.YtnifikpldibbdaaSLaw
namespace Go.Proofs.Ytnifikpldibbdaa.Pure
open Go.RowKit Go.Proofs.Ytnifikpldibbdaa.PSeal Go.Proofs.YtnifikpldibbdaaW.PrintWords Go.Proofs.YtnifikpldibbdaaW.PrintLast
theorem opens_loop {KA : Nat} (hA : ∀ k, KA ≤ k → topiarylaw04_awake.f k = some true) (a : Int) (b : List Int) (c : Int) : ∀ (d k : Nat) (p : List Int) (i : Nat), p.length ≤ 9223372036854775806 → i + d = p.length → KA + d + 1 ≤ k →
    topiarylaw04_SealOpens.l0 k p a b c a b c (i : Int) = some true
  | 0, k, p, i, hl, hi, hk => by
    obtain ⟨k, rfl⟩ : ∃ m, k = m + 1 := ⟨k - 1, by omega⟩
    simp only [topiarylaw04_SealOpens.l0]
    rw [if_neg (by omega), if_pos trivial, if_pos trivial, if_pos trivial, hA k (by omega)]
    rfl
  | d + 1, k, p, i, hl, hi, hk => by
    obtain ⟨k, rfl⟩ : ∃ m, k = m + 1 := ⟨k - 1, by omega⟩
    have hs : ∀ (k : Nat) (x3 : List Int) (x4 : Int) (x5 : List Int) (x6 x7 : Int) (x8 : List Int) (x9 x10 : Int), topiarylaw04_SealOpens.l0 (k + 1) x3 x4 x5 x6 x7 x8 x9 x10 = if x10 < (x3.length : Int) then (if 0 ≤ x10 then (topiarylaw04_SealOpens.l0 k (x3.set (x10 : Int).toNat ((255 - (rd x3 x10)) % 256)) x4 x5 x6 x7 x8 x9 (wrap64 (x10 + 1))) else (none)) else (if x4 = x7 then (if (strOfNums x5).toList = (strOfNums x8).toList then (if x6 = x9 then ((topiarylaw04_awake.f k).bind fun t285 => (some t285)) else (some false)) else (some false)) else (some false)) := by
      intro k x3 x4 x5 x6 x7 x8 x9 x10
      simp only [topiarylaw04_SealOpens.l0]
    rw [hs, if_pos (by omega), if_pos (by omega), w64 (by omega) (by omega)]
    have := opens_loop hA a b c d k (p.set ((i : Int)).toNat ((255 - rd p (i : Int)) % 256)) (i + 1) (by rw [List.length_set]; exact hl) (by rw [List.length_set]; omega) (by omega)
    rw [show ((i + 1 : Nat) : Int) = (i : Int) + 1 from by omega] at this
    exact this
theorem SealOpens : topiarylaw04_SealOpens.Pure := by
  intro l _ hl hw0
  have hw := wfb_of hw0
  obtain ⟨K1, h1⟩ := ev_open hw (by omega)
  obtain ⟨K2, h2⟩ := ev_refopen hw (by omega)
  obtain ⟨K3, h3⟩ := ev_awake
  refine ⟨max K1 (max K2 (K3 + l.length + 1)), ?_⟩
  have e1 := h1 (max K1 (max K2 (K3 + l.length + 1))) (by omega)
  have e2 := h2 (max K1 (max K2 (K3 + l.length + 1))) (by omega)
  dsimp only at e1 e2
  unfold topiarylaw04_SealOpens.f
  rw [Option.bind_some, if_pos (by simp; omega), Option.bind_some, List.nil_append, e1, e2, Option.bind_some, Option.bind_some]
  exact opens_loop (KA := K3) (fun k hk => h3 k hk) _ _ _ l.length _ l 0 (by omega) (by omega) (by omega)
end Go.Proofs.Ytnifikpldibbdaa.Pure
