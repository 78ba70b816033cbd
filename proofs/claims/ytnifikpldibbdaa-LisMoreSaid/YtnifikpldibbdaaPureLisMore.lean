/- With a number more at its end the longest rising part is as long, or one longer. -/
import Derived.Test.YtnifikpldibbdaaLisLoops
import Derived.Test.YtnifikpldibbdaaLisMore
namespace Go.Proofs.Ytnifikpldibbdaa.Pure
open Go.RowKit Go.Proofs.Ytnifikpldibbdaa.PLis Go.Proofs.YtnifikpldibbdaaW.PrintWords Go.Proofs.YtnifikpldibbdaaW.PrintLast LisPlain
theorem long_at (k : Nat) (l : List Int) (h : l.length ≤ 17592186044416) : lis_Long.f k l = some (need l : Int) := by
  unfold lis_Long.f
  rw [rising_at k l h, Option.bind_some, rising_length]
theorem more_loop (l : List Int) (x : Int) (hm : l.length ≤ 17592186043904) : ∀ (d k i : Nat) (b : Bool), i + d = l.length → d + 10 ≤ k → (b = true → ∀ j, j < i → l.getD j 0 < x) → topiarylaw16_LisMore.l0 k l x b (i : Int) = some true
  | 0, k, i, b, hd, hk, hb => by
    obtain ⟨k, rfl⟩ : ∃ m, k = m + 1 := ⟨k - 1, by omega⟩
    have ha := awake_at k (by omega)
    have h1 := more_ge l x
    have h2 := more_le l x
    have h3 := need_len l
    simp only [topiarylaw16_LisMore.l0]
    rw [if_neg (by omega), Option.bind_some, if_pos (by simp; omega), Option.bind_some, List.nil_append, if_pos (by omega), long_at _ _ (by omega), Option.bind_some, long_at _ _ (by rw [List.length_append, List.length_singleton]; omega), Option.bind_some, w64 (n := (need l : Int) + 1) (by omega) (by omega), ha]
    by_cases c : b = true
    · have h4 := more_top l x (fun q y hq => by
        have hl := (List.getElem?_eq_some_iff.1 hq).1
        rw [getD_at hl] at hq
        have := Option.some.inj hq
        have := hb c q (by omega)
        omega)
      rw [if_neg (by omega), if_pos (by omega), if_pos c]
      rfl
    · rw [if_neg c, if_neg c]
      by_cases e : ((need (l ++ [x]) : Nat) : Int) = (need l : Int)
      · rw [if_pos e]
        rfl
      · rw [if_neg e, if_pos (by omega)]
        rfl
  | d + 1, k, i, b, hd, hk, hb => by
    obtain ⟨k, rfl⟩ : ∃ m, k = m + 1 := ⟨k - 1, by omega⟩
    simp only [topiarylaw16_LisMore.l0]
    have e : ((i : Int) + 1) = ((i + 1 : Nat) : Int) := by omega
    rw [if_pos (by omega), w64 (n := (i : Int) + 1) (by omega) (by omega), rd_nat, e]
    by_cases c : b = true
    · rw [if_pos c, if_pos (by omega)]
      refine more_loop l x hm d k (i + 1) _ (by omega) (by omega) (fun h j hj => ?_)
      by_cases hji : j = i
      · rw [hji]; exact of_decide_eq_true h
      · exact hb c j (by omega)
    · rw [if_neg c]
      exact more_loop l x hm d k (i + 1) _ (by omega) (by omega) (fun h => by cases h)
theorem LisMore : topiarylaw16_LisMore.Pure := by
  intro l0 a1 _ hl0 _ _
  exact ⟨l0.length + 10, more_loop l0 a1 (by omega) l0.length _ 0 true (by omega) (by omega) (fun _ j hj => absurd hj (by omega))⟩
end Go.Proofs.Ytnifikpldibbdaa.Pure
