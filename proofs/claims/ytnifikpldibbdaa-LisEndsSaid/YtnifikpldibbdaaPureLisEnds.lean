/- Of a list that rises it is all of it; of one that never rises its first place. -/
import Derived.Test.YtnifikpldibbdaaLisLoops
import Derived.Test.YtnifikpldibbdaaLisMore
namespace Go.Proofs.Ytnifikpldibbdaa.Pure
open Go.RowKit Go.Proofs.Ytnifikpldibbdaa.PLis Go.Proofs.YtnifikpldibbdaaW.PrintWords Go.Proofs.YtnifikpldibbdaaW.PrintLast LisPlain
theorem others_loop (n : Nat) (hn : n ≤ 17592186044416) : ∀ (d k i : Nat) (ins out : List Int), i + d = n → d + 1 ≤ k → out.length ≤ i → lis_Others.l0 k ins out (n : Int) (i : Int) = some (out ++ oth d i ins)
  | 0, k, i, ins, out, hd, hk, _ => by
    obtain ⟨k, rfl⟩ : ∃ m, k = m + 1 := ⟨k - 1, by omega⟩
    simp only [lis_Others.l0]
    rw [if_neg (by omega)]
    simp [oth]
  | d + 1, k, i, ins, out, hd, hk, ho => by
    obtain ⟨k, rfl⟩ : ∃ m, k = m + 1 := ⟨k - 1, by omega⟩
    simp only [lis_Others.l0]
    rw [if_pos (by omega), w64 (n := (i : Int) + 1) (by omega) (by omega), show ((i : Int) + 1) = ((i + 1 : Nat) : Int) from by omega]
    have hput : lis_Others.l0 k ins (out ++ [(i : Int)]) (n : Int) ((i + 1 : Nat) : Int) = some (out ++ (i : Int) :: oth d (i + 1) ins) := by
      rw [others_loop n hn d k (i + 1) ins (out ++ [(i : Int)]) (by omega) (by omega) (by rw [List.length_append, List.length_singleton]; omega), List.append_assoc]
      rfl
    cases ins with
    | nil =>
      rw [if_neg (by simp), if_pos (by omega)]
      exact hput
    | cons p r =>
      have hr : rd (p :: r) 0 = p := rfl
      rw [if_pos (by rw [List.length_cons]; omega), if_pos (by rw [List.length_cons]; omega), hr]
      unfold oth
      by_cases c : p = (i : Int)
      · rw [if_pos c, if_pos c, if_pos (by rw [List.length_cons]; omega)]
        exact others_loop n hn d k (i + 1) r out (by omega) (by omega) (by omega)
      · rw [if_neg c, if_neg c, if_pos (by omega)]
        exact hput
theorem others_at (l : List Int) (hl : l.length ≤ 17592186044416) (k : Nat) (hk : l.length + 1 ≤ k) : lis_Others.f k l = some (oth l.length 0 (rising l)) := by
  unfold lis_Others.f
  rw [rising_at _ _ hl, Option.bind_some]
  exact others_loop l.length hl l.length k 0 (rising l) [] (by omega) hk (Nat.le_refl _)
theorem ends_fin (l : List Int) (hl : l.length ≤ 17592186043904) (k : Nat) (hk : 10 ≤ k) (down : Bool) (hd : down = true → ∀ (j : Nat), 1 ≤ j → j < l.length → l.getD j 0 ≤ l.getD (j - 1) 0) : topiarylaw16_LisEnds.j1 k l down (rising l) false = some true := by
  obtain ⟨k, rfl⟩ : ∃ m, k = m + 1 := ⟨k - 1, by omega⟩
  have ha := awake_at k (by omega)
  simp only [topiarylaw16_LisEnds.j1]
  rw [if_neg (by decide), ha]
  by_cases c : down = true
  · rw [if_pos c]
    by_cases h0 : 0 < l.length
    · rw [if_pos (by omega), down_rising l (hd c) h0, same_at _ _ (by decide) _ (by simp; omega)]
      rfl
    · rw [if_neg (by omega)]
      rfl
  · rw [if_neg c]
    rfl
theorem ends_loop (l : List Int) (hl : l.length ≤ 17592186043904) : ∀ (d k i : Nat) (up down : Bool), i + d = l.length ∨ (d = 0 ∧ l.length ≤ i) → 1 ≤ i → l.length + d + 20 ≤ k → (up = true → ∀ (j : Nat), 1 ≤ j → j < i → j < l.length → l.getD (j - 1) 0 < l.getD j 0) → (down = true → ∀ (j : Nat), 1 ≤ j → j < i → j < l.length → l.getD j 0 ≤ l.getD (j - 1) 0) →
    topiarylaw16_LisEnds.l0 k l up down (i : Int) = some true
  | 0, k, i, up, down, hd, h1, hk, hu, hv => by
    obtain ⟨k, rfl⟩ : ∃ m, k = m + 1 := ⟨k - 1, by omega⟩
    simp only [topiarylaw16_LisEnds.l0]
    have hf := ends_fin l hl k (by omega) down (fun h j g1 g2 => hv h j g1 (by omega) g2)
    rw [if_neg (by omega), rising_at _ _ (by omega), Option.bind_some, hf]
    by_cases c : up = true
    · have hu' := fun (j : Nat) g1 g2 => hu c j g1 (by omega) g2
      rw [if_pos c, rising_length, up_need l hu', if_pos rfl, others_at l (by omega) k (by omega), Option.bind_some, up_oth l hu', decide_eq_false (by simp)]
      exact hf
    · rw [if_neg c]
  | d + 1, k, i, up, down, hd, h1, hk, hu, hv => by
    obtain ⟨k, rfl⟩ : ∃ m, k = m + 1 := ⟨k - 1, by omega⟩
    have hil : i < l.length := by omega
    have e : ((i : Int) + 1) = ((i + 1 : Nat) : Int) := by omega
    have e2 : ((i : Int) - 1) = ((i - 1 : Nat) : Int) := by omega
    simp only [topiarylaw16_LisEnds.l0]
    rw [if_pos (by omega), w64 (n := (i : Int) + 1) (by omega) (by omega), w64 (n := (i : Int) - 1) (by omega) (by omega), rd_nat, e2, rd_nat, e]
    have step := fun (u v : Bool) (g1 : u = true → up = true ∧ l.getD (i - 1) 0 < l.getD i 0) (g2 : v = true → down = true ∧ l.getD i 0 ≤ l.getD (i - 1) 0) => ends_loop l hl d k (i + 1) u v (by omega) (by omega) (by omega)
      (fun h j a1 a2 a3 => by
        by_cases c : j = i
        · rw [c]; exact (g1 h).2
        · exact hu (g1 h).1 j a1 (by omega) a3)
      (fun h j a1 a2 a3 => by
        by_cases c : j = i
        · rw [c]; exact (g2 h).2
        · exact hv (g2 h).1 j a1 (by omega) a3)
    by_cases c : up = true
    · rw [if_pos c, if_pos (by omega), if_pos (by omega), if_pos (by omega)]
      by_cases c2 : down = true
      · rw [if_pos c2]
        exact step _ _ (fun h => ⟨c, of_decide_eq_true h⟩) (fun h => ⟨c2, of_decide_eq_true h⟩)
      · rw [if_neg c2]
        exact step _ _ (fun h => ⟨c, of_decide_eq_true h⟩) (fun h => by cases h)
    · rw [if_neg c]
      by_cases c2 : down = true
      · rw [if_pos c2, if_pos (by omega), if_pos (by omega), if_pos (by omega)]
        exact step _ _ (fun h => by cases h) (fun h => ⟨c2, of_decide_eq_true h⟩)
      · rw [if_neg c2]
        exact step _ _ (fun h => by cases h) (fun h => by cases h)
theorem LisEnds : topiarylaw16_LisEnds.Pure := by
  intro l0 _ hl0 _
  refine ⟨2 * l0.length + 20, ?_⟩
  exact ends_loop l0 (by omega) (l0.length - 1) _ 1 true true (by omega) (by omega) (by omega) (fun _ j h1 h2 => absurd h2 (by omega)) (fun _ j h1 h2 => absurd h2 (by omega))
end Go.Proofs.Ytnifikpldibbdaa.Pure
