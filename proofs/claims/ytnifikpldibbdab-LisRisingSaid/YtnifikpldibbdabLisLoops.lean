/- What the functions of lis tell, in plain lists. -/
import Derived.Test.YtnifikpldibbdabPLisx
import Derived.Test.YtnifikpldibbdabLisRef
namespace Go.Proofs.Ytnifikpldibbdab.Pure
open Go.RowKit Go.Proofs.Ytnifikpldibbdab.PLis Go.Proofs.YtnifikpldibbdabW.PrintWords Go.Proofs.YtnifikpldibbdabW.PrintLast LisPlain
theorem w64 {n : Int} (h0 : -9223372036854775808 ≤ n) (h1 : n ≤ 9223372036854775807) : wrap64 n = n := by unfold wrap64; omega
theorem rd_nat (l : List Int) (i : Nat) : rd l (i : Int) = l.getD i 0 := by unfold rd; rw [Int.toNat_natCast]
theorem drop_at {l : List Int} {i : Nat} (h : i < l.length) : l.drop i = l.getD i 0 :: l.drop (i + 1) := by
  rw [List.drop_eq_getElem_cons h, List.getD_eq_getElem?_getD, List.getElem?_eq_getElem h]; rfl
theorem is_loop (l ps : List Int) (hm : ps.length < 9223372036854775807) : ∀ (d k i : Nat) (last : Option Int), i + d = ps.length → d + 1 ≤ k → (i = 0 → last = none) → (0 < i → last = some (ps.getD (i - 1) 0) ∧ 0 ≤ ps.getD (i - 1) 0 ∧ ps.getD (i - 1) 0 < (l.length : Int)) →
    lis_Is.l0 k l ps ps (ps.length : Int) (i : Int) = some (isB l last (ps.drop i))
  | 0, k, i, last, hd, hk, _, _ => by
    obtain ⟨k, rfl⟩ : ∃ m, k = m + 1 := ⟨k - 1, by omega⟩
    simp only [lis_Is.l0]
    rw [if_neg (by omega), List.drop_eq_nil_of_le (by omega)]
    cases last <;> rfl
  | d + 1, k, i, last, hd, hk, h0, h1 => by
    obtain ⟨k, rfl⟩ : ∃ m, k = m + 1 := ⟨k - 1, by omega⟩
    simp only [lis_Is.l0]
    rw [if_pos (by omega), if_pos (by omega), if_pos (by omega), rd_nat, drop_at (by omega : i < ps.length), w64 (n := (i : Int) + 1) (by omega) (by omega)]
    have ih := is_loop l ps hm d k (i + 1) (some (ps.getD i 0)) (by omega) (by omega) (by omega)
    rw [Nat.add_sub_cancel] at ih
    generalize hp : ps.getD i 0 = p at *
    by_cases c0 : p < 0
    · rw [if_pos c0]
      cases last <;> simp only [isB] <;> rw [if_pos (.inl c0)]
    rw [if_neg c0]
    by_cases c1 : p ≥ (l.length : Int)
    · rw [if_pos c1]
      cases last <;> simp only [isB] <;> rw [if_pos (.inr c1)]
    rw [if_neg c1]
    have ih := ih (fun _ => ⟨rfl, by omega, by omega⟩)
    by_cases ci : (i : Int) > 0
    · obtain ⟨rfl, g1, g2⟩ := h1 (by omega)
      obtain ⟨j, rfl⟩ : ∃ j, i = j + 1 := ⟨i - 1, by omega⟩
      rw [Nat.add_sub_cancel] at *
      rw [if_pos ci, w64 (n := ((j + 1 : Nat) : Int) - 1) (by omega) (by omega), show ((j + 1 : Nat) : Int) - 1 = (j : Int) from by omega, if_pos (by omega), if_pos (by omega), rd_nat]
      generalize ps.getD j 0 = q at *
      simp only [isB]
      rw [if_neg (c := p < 0 ∨ _) (by omega)]
      by_cases c2 : q ≥ p
      · rw [if_pos c2, if_pos (.inl c2)]
      rw [if_neg c2, if_pos g1, if_pos g2, if_pos (by omega), if_pos (by omega)]
      have e1 : rd l q = l.getD q.toNat 0 := rfl
      have e2 : rd l p = l.getD p.toNat 0 := rfl
      rw [e1, e2]
      by_cases c3 : l.getD q.toNat 0 ≥ l.getD p.toNat 0
      · rw [if_pos c3, if_pos (.inr c3)]
      · rw [if_neg c3, if_neg (by omega)]
        exact ih
    · have : i = 0 := by omega
      subst this
      rw [if_neg ci, h0 rfl]
      simp only [isB]
      rw [if_neg (by omega)]
      exact ih
theorem is_at (l ps : List Int) (hm : ps.length < 9223372036854775807) (k : Nat) (hk : ps.length + 1 ≤ k) : lis_Is.f k l ps = some (isB l none ps) :=
  is_loop l ps hm ps.length k 0 none (by omega) (by omega) (fun _ => rfl) (fun h => absurd h (by omega))
theorem same_loop (a b : List Int) (hl : a.length = b.length) (hm : a.length < 9223372036854775807) : ∀ (d k i : Nat), i + d = a.length → d + 1 ≤ k →
    topiaryref02_Same.l0 k a b (i : Int) = some (decide (a.drop i = b.drop i))
  | 0, k, i, hd, hk => by
    obtain ⟨k, rfl⟩ : ∃ m, k = m + 1 := ⟨k - 1, by omega⟩
    simp only [topiaryref02_Same.l0]
    rw [if_neg (by omega), List.drop_eq_nil_of_le (by omega), List.drop_eq_nil_of_le (by omega)]
    rfl
  | d + 1, k, i, hd, hk => by
    obtain ⟨k, rfl⟩ : ∃ m, k = m + 1 := ⟨k - 1, by omega⟩
    simp only [topiaryref02_Same.l0]
    rw [if_pos (by omega), if_pos (by omega), if_pos (by omega), rd_nat, rd_nat, drop_at (l := a) (i := i) (by omega), drop_at (l := b) (i := i) (by omega), w64 (by omega) (by omega)]
    have ih := same_loop a b hl hm d k (i + 1) (by omega) (by omega)
    by_cases c : a.getD i 0 = b.getD i 0
    · rw [if_pos c]
      refine ih.trans ?_
      congr 1
      rw [c]
      simp
    · rw [if_neg c]
      congr 1
      exact (decide_eq_false (fun h => c (List.cons.inj h).1)).symm
theorem same_at (a b : List Int) (hm : a.length < 9223372036854775807) (k : Nat) (hk : a.length + 1 ≤ k) : topiaryref02_Same.f k a b = some (decide (a = b)) := by
  unfold topiaryref02_Same.f
  by_cases hl : a.length = b.length
  · rw [if_pos (by omega)]
    have := same_loop a b hl hm a.length k 0 (by omega) (by omega)
    simpa using this
  · rw [if_neg (by omega), decide_eq_false (fun h => hl (by rw [h]))]
theorem rising_at (k : Nat) (l : List Int) (h : l.length ≤ 17592186044416) : lis_Rising.f k l = some (rising l) := by unfold lis_Rising.f; rw [if_pos h]
theorem awake_at (k : Nat) (hk : 4 ≤ k) : topiarylaw16_awake.f k = some true := by
  unfold topiarylaw16_awake.f
  rw [rising_at _ _ (by decide), show rising [3, 1, 2, 5, 4] = [1, 2, 3] from by decide, Option.bind_some, same_at _ _ (by decide) _ (by simpa using hk), Option.bind_some, if_pos (by decide), is_at _ _ (by decide) _ (by simp; omega), Option.bind_some]
  rfl
theorem others_loop (n : Nat) (hn : n ≤ 17592186044416) : ∀ (d k i : Nat) (ins out : List Int), i + d = n → d + 1 ≤ k → out.length ≤ i → lis_Others.l0 k ins out (n : Int) (i : Int) = some (out ++ oth d i ins)
  | 0, k, i, ins, out, hd, hk, _ => by
    obtain ⟨k, rfl⟩ : ∃ m, k = m + 1 := ⟨k - 1, by omega⟩
    simp only [lis_Others.l0]
    rw [if_neg (by omega)]
    simp [oth]
  | d + 1, k, i, ins, out, hd, hk, ho => by
    obtain ⟨k, rfl⟩ : ∃ m, k = m + 1 := ⟨k - 1, by omega⟩
    simp only [lis_Others.l0]
    rw [if_pos (by omega), w64 (n := (i : Int) + 1) (by omega) (by omega), show ((i : Int) + 1) = ((i + 1 : Nat) : Int) from by omega]
    have hput : lis_Others.l0 k ins (out ++ [(i : Int)]) (n : Int) ((i + 1 : Nat) : Int) = some (out ++ (i : Int) :: oth d (i + 1) ins) := by
      rw [others_loop n hn d k (i + 1) ins (out ++ [(i : Int)]) (by omega) (by omega) (by rw [List.length_append, List.length_singleton]; omega), List.append_assoc]
      rfl
    cases ins with
    | nil =>
      rw [if_neg (by simp), if_pos (by omega)]
      exact hput
    | cons p r =>
      have hr : rd (p :: r) 0 = p := rfl
      rw [if_pos (by rw [List.length_cons]; omega), if_pos (by rw [List.length_cons]; omega), hr]
      unfold oth
      by_cases c : p = (i : Int)
      · rw [if_pos c, if_pos c, if_pos (by rw [List.length_cons]; omega)]
        exact others_loop n hn d k (i + 1) r out (by omega) (by omega) (by omega)
      · rw [if_neg c, if_neg c, if_pos (by omega)]
        exact hput
theorem others_at (l : List Int) (hl : l.length ≤ 17592186044416) (k : Nat) (hk : l.length + 1 ≤ k) : lis_Others.f k l = some (oth l.length 0 (rising l)) := by
  unfold lis_Others.f
  rw [rising_at _ _ hl, Option.bind_some]
  exact others_loop l.length hl l.length k 0 (rising l) [] (by omega) hk (Nat.le_refl _)
theorem long_at (k : Nat) (l : List Int) (h : l.length ≤ 17592186044416) : lis_Long.f k l = some (need l : Int) := by
  unfold lis_Long.f
  rw [rising_at k l h, Option.bind_some, rising_length]
end Go.Proofs.Ytnifikpldibbdab.Pure
