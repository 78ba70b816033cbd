/- What the law's own count of ranks tells. -/
import Derived.Test.YtnifikpldibbdaaLisLoops
import Derived.Test.YtnifikpldibbdaaLisRank
namespace Go.Proofs.Ytnifikpldibbdaa.Pure
open Go.RowKit Go.Proofs.Ytnifikpldibbdaa.PLis Go.Proofs.YtnifikpldibbdaaW.PrintWords Go.Proofs.YtnifikpldibbdaaW.PrintLast LisPlain
theorem rank_l2 (l out : List Int) (hl : l.length ≤ 1000) (i : Nat) (k : Nat) (hk : k < l.length) (r : List Int) : ∀ (d j : Nat) (b : Bool), j + d = k → (b = true ↔ l.getD k 0 < l.getD i 0 ∧ ∀ q, q < j → l.getD q 0 ≠ l.getD k 0) → i < out.length → 
    (∃ q, topiarylaw16_ranks.l1 q l (if l.getD k 0 < l.getD i 0 ∧ First l k then out.set i (wrap64 (out.getD i 0 + 1)) else out) (i : Int) ((k + 1 : Nat) : Int) = some r) → ∃ q, topiarylaw16_ranks.l2 q l out (i : Int) (k : Int) b (j : Int) = some r
  | 0, j, b, hd, hb, ho, ⟨q, hq⟩ => by
    refine ⟨q + 1, ?_⟩
    obtain rfl : j = k := by omega
    simp only [topiarylaw16_ranks.l2]
    rw [if_neg (by omega), w64 (n := (j : Int) + 1) (by omega) (by omega), show ((j : Int) + 1) = ((j + 1 : Nat) : Int) from by omega]
    replace hb : b = true ↔ l.getD j 0 < l.getD i 0 ∧ First l j := hb
    by_cases c : b = true
    · rw [if_pos (hb.1 c)] at hq
      rw [if_pos c, if_pos (by omega), if_pos (by omega), Int.toNat_natCast, rd_nat]
      exact hq
    · rw [if_neg (fun g => c (hb.2 g))] at hq
      rw [if_neg c]
      exact hq
  | d + 1, j, b, hd, hb, ho, hq => by
    by_cases c : b = true
    · obtain ⟨q, h⟩ := rank_l2 l out hl i k hk r d (j + 1) (l.getD j 0 != l.getD k 0) (by omega) (by
        have := hb.1 c
        constructor
        · intro h
          refine ⟨this.1, fun q hq => ?_⟩
          by_cases e : q = j
          · rw [e]; simpa using h
          · exact this.2 q (by omega)
        · intro h
          simpa using h.2 j (by omega)) ho hq
      refine ⟨q + 1, ?_⟩
      simp only [topiarylaw16_ranks.l2]
      rw [if_pos (by omega), if_pos c, if_pos (by omega), if_pos (by omega), if_pos (by omega), if_pos (by omega), w64 (n := (j : Int) + 1) (by omega) (by omega), rd_nat, rd_nat]
      exact h
    · have hn : ¬ (l.getD k 0 < l.getD i 0 ∧ First l k) := fun g => c (hb.2 ⟨g.1, fun q hq => g.2 q (by omega)⟩)
      rw [if_neg hn] at hq
      obtain ⟨q, h⟩ := hq
      refine ⟨q + 1, ?_⟩
      simp only [topiarylaw16_ranks.l2]
      rw [if_pos (by omega), if_neg c, w64 (n := (k : Int) + 1) (by omega) (by omega)]
      exact h
theorem rank_l1 (l : List Int) (hl : l.length ≤ 1000) (i : Nat) (hi : i < l.length) (r : List Int) : ∀ (d k : Nat) (out : List Int), k + d = l.length → i < out.length → out.getD i 0 = (below l (l.getD i 0) k : Int) →
    (∃ q, topiarylaw16_ranks.l0 q l (out.set i (rk l (l.getD i 0))) ((i + 1 : Nat) : Int) = some r) → ∃ q, topiarylaw16_ranks.l1 q l out (i : Int) (k : Int) = some r
  | 0, k, out, hd, ho, hv, ⟨q, hq⟩ => by
    refine ⟨q + 1, ?_⟩
    obtain rfl : k = l.length := by omega
    simp only [topiarylaw16_ranks.l1]
    rw [if_neg (by omega), w64 (n := (i : Int) + 1) (by omega) (by omega)]
    have : out.set i (rk l (l.getD i 0)) = out := by
      rw [show rk l (l.getD i 0) = out.getD i 0 from hv.symm]
      apply List.ext_getElem?
      intro n
      rw [List.getElem?_set]
      split
      · rename_i e
        rw [← e]
        exact (getD_at ho).symm
      · rfl
    rw [this] at hq
    exact hq
  | d + 1, k, out, hd, ho, hv, hq => by
    have hk : k < l.length := by omega
    have hbl := below_le l (l.getD i 0) k
    have hset : ∀ v : Int, (out.set i v).getD i 0 = v := fun v => by rw [List.getD_eq_getElem?_getD, List.getElem?_set_self (by omega)]; rfl
    have h1 : ∃ q, topiarylaw16_ranks.l1 q l (if l.getD k 0 < l.getD i 0 ∧ First l k then out.set i (wrap64 (out.getD i 0 + 1)) else out) (i : Int) ((k + 1 : Nat) : Int) = some r := by
      refine rank_l1 l hl i hi r d (k + 1) _ (by omega) (by split; (rw [List.length_set]; exact ho); exact ho) ?_ ?_
      · unfold below
        split
        · rw [hset, hv, w64 (by omega) (by omega)]; omega
        · rw [hv]; omega
      · obtain ⟨q, hq⟩ := hq
        refine ⟨q, ?_⟩
        split
        · rw [List.set_set]; exact hq
        · exact hq
    obtain ⟨q, h⟩ := rank_l2 l out hl i k hk r k 0 (decide (l.getD k 0 < l.getD i 0)) (by omega) (by simp) ho h1
    refine ⟨q + 1, ?_⟩
    simp only [topiarylaw16_ranks.l1]
    rw [if_pos (by omega), if_pos (by omega), if_pos (by omega), if_pos (by omega), rd_nat, rd_nat]
    exact h
theorem rank_l0 (l : List Int) (hl : l.length ≤ 1000) : ∀ (d i : Nat), i + d = l.length → ∃ q, topiarylaw16_ranks.l0 q l ((l.take i).map (rk l) ++ List.replicate d 0) (i : Int) = some (l.map (rk l))
  | 0, i, hd => by
    refine ⟨1, ?_⟩
    simp only [topiarylaw16_ranks.l0]
    rw [if_neg (by omega), List.take_of_length_le (by omega)]
    simp
  | d + 1, i, hd => by
    have hi : i < l.length := by omega
    have hlen : ((l.take i).map (rk l)).length = i := by simp; omega
    have h1 := rank_l0 l hl d (i + 1) (by omega)
    have e : ((l.take i).map (rk l) ++ List.replicate (d + 1) 0).set i (rk l (l.getD i 0)) = (l.take (i + 1)).map (rk l) ++ List.replicate d 0 := by
      rw [List.set_append_right _ _ (by omega), hlen, Nat.sub_self, List.replicate_succ, List.set_cons_zero, List.take_add_one, getD_at hi, List.map_append, List.append_assoc]
      rfl
    obtain ⟨q, h⟩ := rank_l1 l hl i hi (l.map (rk l)) l.length 0 ((l.take i).map (rk l) ++ List.replicate (d + 1) 0) (by omega) (by rw [List.length_append, hlen, List.length_replicate]; omega)
      (by rw [List.getD_eq_getElem?_getD, List.getElem?_append_right (by omega), hlen, Nat.sub_self, List.replicate_succ]; rfl) (by rw [e]; exact h1)
    refine ⟨q + 1, ?_⟩
    simp only [topiarylaw16_ranks.l0]
    rw [if_pos (by omega)]
    exact h
theorem ranks_at (l : List Int) (hl : l.length ≤ 1000) : ∃ k, topiarylaw16_ranks.f k l = some (l.map (rk l)) := by
  obtain ⟨q, h⟩ := rank_l0 l hl l.length 0 (by omega)
  refine ⟨q, ?_⟩
  unfold topiarylaw16_ranks.f
  rw [if_pos (by omega), if_pos (by omega), Int.toNat_natCast]
  exact h
end Go.Proofs.Ytnifikpldibbdaa.Pure
