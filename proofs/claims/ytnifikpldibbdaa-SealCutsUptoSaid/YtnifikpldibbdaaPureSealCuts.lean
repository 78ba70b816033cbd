/- A frame that is cut short, or has bytes behind it, is refused (where what comes in is of no more than 1,048,576 values). -/
import Derived.Test.YtnifikpldibbdaaPSealx20
import Derived.Test.YtnifikpldibbdaaSBack
namespace Go.Proofs.Ytnifikpldibbdaa.Pure
open Go.RowKit Go.Proofs.Ytnifikpldibbdaa.PSeal Go.Proofs.YtnifikpldibbdaaW.PrintWords Go.Proofs.YtnifikpldibbdaaW.PrintLast
theorem openS_wrong {p : List Int} (h : p.length < 9 ∨ num4 (p.drop 1) ≠ (p.length : Int) - 9) : openS p = (0, [], 2) := by
  unfold openS
  rw [if_pos]
  rcases h with h | h
  · exact .inl h
  · exact .inr (.inr (.inr (.inr h)))
theorem num4_frame (a : Int) (l m : List Int) (hl : l.length ≤ 65536) : num4 ((frame a l ++ m).drop 1) = (l.length : Int) := by
  have hd : (frame a l ++ m).drop 1 = fourL (l.length : Int) ++ ((l ++ fourL ((crc (body a l) : Nat) : Int)) ++ m) := by
    show ((fourL (l.length : Int) ++ l) ++ fourL _) ++ m = _
    rw [List.append_assoc, List.append_assoc, List.append_assoc]
  rw [hd, num4_app _ _ (by omega) (by omega)]
theorem openS_cut (a : Int) (l : List Int) (hl : l.length ≤ 65536) (n : Nat) (hn : n < (frame a l).length) : openS ((frame a l).take n) = (0, [], 2) := by
  have hfl := frame_len a l
  by_cases h9 : n < 9
  · exact openS_wrong (.inl (by rw [List.length_take]; omega))
  · refine openS_wrong (.inr ?_)
    have h1 : num4 (((frame a l).take n).drop 1) = num4 ((frame a l).drop 1) := by
      rw [num4_nat, num4_nat ((frame a l).drop 1)]
      simp only [List.getElem?_drop, List.getElem?_take]
      rw [if_pos (by omega), if_pos (by omega), if_pos (by omega), if_pos (by omega)]
    have h2 := num4_frame a l [] hl
    rw [List.append_nil] at h2
    rw [h1, h2, List.length_take]
    omega
theorem SealCuts (l : List Int) (c : Int) (m : List Int) (hw0 : ∀ x ∈ l, (Lit.int .u8 x).wf = true) (_ : (Lit.int .i64 c).wf = true) (hm0 : ∀ x ∈ m, (Lit.int .u8 x).wf = true) (hb : l.length + m.length ≤ 1048576) :
    ∃ k, topiarylaw04_SealCuts.f k l c m = some true := by
  have hw := wfb_of hw0
  have hmw := wfb_of hm0
  obtain ⟨K1, h1⟩ := ev_seal 3 l
  obtain ⟨K3, h3⟩ := ev_awake
  obtain ⟨k, hk1, hk3⟩ : ∃ k, K1 ≤ k ∧ K3 + 10 * (l.length + 9 + m.length) + 3 ≤ k := ⟨K1 + (K3 + 10 * (l.length + 9 + m.length) + 3), by omega, by omega⟩
  refine ⟨k + 1 + 1, ?_⟩
  have e1 := h1 (k + 1 + 1) (by omega)
  dsimp only at e1
  have es : sealS 3 l = if l.length > 65536 then ([], 3) else (frame 3 l, 0) := by
    unfold sealS
    rw [if_neg (by decide)]
  unfold topiarylaw04_SealCuts.f
  rw [e1, Option.bind_some, es]
  by_cases hl : l.length > 65536
  · have e3 := h3 (k + 1 + 1) (by omega)
    dsimp only at e3
    rw [if_pos hl]
    dsimp only
    rw [if_neg (by decide), if_pos (by omega), e3]
    rfl
  · rw [if_neg hl]
    dsimp only
    rw [if_pos rfl]
    have hfl := frame_len 3 l
    have key : ∀ q : Int, 0 ≤ q → q < ((frame 3 l).length : Int) → topiarylaw04_SealCuts.j1 (k + 1) q m (frame 3 l) = some true := by
      intro q hq0 hq1
      have e3 := h3 k (by omega)
      dsimp only at e3
      simp only [topiarylaw04_SealCuts.j1]
      have hfw := frame_wf 3 hw
      rw [if_pos hq0, if_pos (by omega), open_at (hfw.take _) (by rw [List.length_take]; omega) k (by rw [List.length_take]; omega), openS_cut 3 l (by omega) q.toNat (by omega), Option.bind_some, Option.bind_some, if_pos (by simp; omega), Option.bind_some, List.nil_append, if_pos (by omega), open_at (hfw.app hmw) (by rw [List.length_append]; omega) k (by rw [List.length_append]; omega), Option.bind_some]
      by_cases hm : (m.length : Int) > 0
      · have hx : openS (frame 3 l ++ m) = (0, [], 2) := openS_wrong (.inr (by rw [num4_frame 3 l m (by omega), List.length_append]; omega))
        rw [if_pos hm, hx, if_pos rfl, if_pos rfl, if_pos rfl, e3]
        rfl
      · have hm' : m = [] := List.eq_nil_of_length_eq_zero (by omega)
        rw [if_neg hm, hm', List.append_nil, open_frame (by decide) (by decide) (by omega), if_pos rfl, if_pos rfl, if_pos rfl, e3]
        rfl
    have ht : topiarylaw04_SealCuts.j0 (k + 1 + 1) c m (frame 3 l) true = some true := by
      simp only [topiarylaw04_SealCuts.j0]
      rw [if_pos trivial]
      exact key 0 (by omega) (by omega)
    by_cases g : c < 0
    · rw [if_pos g]; exact ht
    rw [if_neg g]
    by_cases g2 : c ≥ ((frame 3 l).length : Int)
    · rw [decide_eq_true g2]; exact ht
    rw [decide_eq_false g2]
    simp only [topiarylaw04_SealCuts.j0]
    rw [if_neg (by decide)]
    exact key c (by omega) (by omega)
end Go.Proofs.Ytnifikpldibbdaa.Pure
