/- A place is in the longest rising part, or among the others. -/
import Derived.Test.YtnifikpldibbdabLisLoops
namespace Go.Proofs.Ytnifikpldibbdab.Pure
open Go.RowKit Go.Proofs.Ytnifikpldibbdab.PLis Go.Proofs.YtnifikpldibbdabW.PrintWords Go.Proofs.YtnifikpldibbdabW.PrintLast LisPlain
theorem drop_cons {a r : List Int} {i : Nat} {p : Int} (h : a.drop i = p :: r) : i < a.length ∧ a.getD i 0 = p ∧ a.drop (i + 1) = r := by
  have hl : i < a.length := by
    have := congrArg List.length h
    rw [List.length_drop, List.length_cons] at this
    omega
  rw [drop_at hl] at h
  injection h with h1 h2
  exact ⟨hl, h1, h2⟩
theorem drop_nil {a : List Int} {i : Nat} (h : a.drop i = []) : a.length ≤ i := by
  have := congrArg List.length h
  rw [List.length_drop, List.length_nil] at this
  omega
theorem both_loop (l a b : List Int) (hl : l.length ≤ 17592186044416) (ha : a.length = need l) (hb : b.length ≤ l.length) : ∀ (d k i j n : Nat) (ps : List Int) (last : Option Int), n + d = l.length → 2 * d + 10 ≤ k → a.drop i = ps → b.drop j = oth d n ps → Rise l n last ps → i ≤ a.length → j ≤ b.length →
    topiarylaw16_LisBoth.l0 k l a b (i : Int) (j : Int) (n : Int) = some true
  | 0, k, i, j, n, ps, last, hd, hk, h1, h2, h3, h4, h5 => by
    obtain ⟨k, rfl⟩ : ∃ m, k = m + 1 := ⟨k - 1, by omega⟩
    have hroom := h3.room
    have hps : ps = [] := List.length_eq_zero_iff.1 (by omega)
    have g1 := drop_nil (h1.trans hps)
    have g2 := drop_nil h2
    simp only [topiarylaw16_LisBoth.l0]
    rw [if_neg (by omega), if_pos (by omega), if_pos (by omega), long_at _ _ hl, Option.bind_some, if_pos (by omega), awake_at _ (by omega)]
    rfl
  | d + 1, k, i, j, n, ps, last, hd, hk, h1, h2, h3, h4, h5 => by
    obtain ⟨k, rfl⟩ : ∃ m, k = m + 2 := ⟨k - 2, by omega⟩
    have hnl := need_len l
    have e : ((n : Int) + 1) = ((n + 1 : Nat) : Int) := by omega
    -- a place of the others
    have other : ∀ (ps' : List Int), b.drop j = (n : Int) :: oth d (n + 1) ps' → a.drop i = ps' → Rise l (n + 1) last ps' → topiarylaw16_LisBoth.j1 (k + 1) l a b (i : Int) (j : Int) (n : Int) false = some true := fun ps' g1 g2 g3 => by
      obtain ⟨f1, f2, f3⟩ := drop_cons g1
      simp only [topiarylaw16_LisBoth.j1]
      rw [if_neg (by decide), if_pos (by omega), if_pos (by omega), rd_nat, if_pos f2, w64 (n := (n : Int) + 1) (by omega) (by omega), w64 (n := (j : Int) + 1) (by omega) (by omega), e, show ((j : Int) + 1) = ((j + 1 : Nat) : Int) from by omega]
      exact both_loop l a b hl ha hb d k i (j + 1) (n + 1) ps' last (by omega) (by omega) g2 f3 g3 h4 (by omega)
    simp only [topiarylaw16_LisBoth.l0]
    rw [if_pos (by omega)]
    match ps, h1, h2, h3 with
    | [], h1, h2, h3 =>
      have g1 := drop_nil h1
      rw [if_neg (by omega)]
      exact other [] h2 h1 trivial
    | p :: r, h1, h2, h3 =>
      obtain ⟨f1, f2, f3⟩ := drop_cons h1
      obtain ⟨q, x, e1, e2, e3, e4, e5⟩ := h3
      rw [if_pos (by omega), if_pos (by omega), rd_nat, f2]
      unfold oth at h2
      by_cases c : p = (n : Int)
      · rw [if_pos c] at h2
        rw [show (p == (n : Int)) = true from by rw [beq_iff_eq]; exact c]
        simp only [topiarylaw16_LisBoth.j1]
        rw [if_pos trivial, w64 (n := (n : Int) + 1) (by omega) (by omega), w64 (n := (i : Int) + 1) (by omega) (by omega), e, show ((i : Int) + 1) = ((i + 1 : Nat) : Int) from by omega]
        exact both_loop l a b hl ha hb d k (i + 1) j (n + 1) r (some x) (by omega) (by omega) f3 h2 (e5.lower (by omega)) (by omega) h5
      · rw [if_neg c] at h2
        rw [show (p == (n : Int)) = false from by rw [beq_eq_false_iff_ne]; exact c]
        exact other (p :: r) h2 h1 ⟨q, x, e1, by omega, e3, e4, e5⟩
theorem oth_short : ∀ (d i : Nat) (ps : List Int), (oth d i ps).length ≤ d
  | 0, _, _ => Nat.le_refl _
  | d + 1, i, [] => by
    have := oth_short d (i + 1) []
    simp only [oth, List.length_cons]
    omega
  | d + 1, i, p :: r => by
    have h1 := oth_short d (i + 1) r
    have h2 := oth_short d (i + 1) (p :: r)
    simp only [oth]
    split
    · omega
    · rw [List.length_cons]; omega
theorem LisBoth : topiarylaw16_LisBoth.Pure := by
  intro l0 _ hl0 _
  refine ⟨2 * l0.length + 10, ?_⟩
  unfold topiarylaw16_LisBoth.f
  rw [rising_at _ _ (by omega), Option.bind_some, others_at l0 (by omega) _ (by omega), Option.bind_some]
  exact both_loop l0 (rising l0) _ (by omega) (rising_length l0) (oth_short _ _ _) l0.length _ 0 0 0 (rising l0) none (by omega) (by omega) rfl rfl (rising_rise l0) (Nat.zero_le _) (Nat.zero_le _)
end Go.Proofs.Ytnifikpldibbdab.Pure
