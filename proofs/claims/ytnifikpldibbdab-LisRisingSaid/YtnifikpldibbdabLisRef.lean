/- The document's own answer: lengths by definition, each time the least place. -/
import Derived.Test.YtnifikpldibbdabLisMore
namespace Go.Proofs.Ytnifikpldibbdab.LisPlain
/-- The greatest of 1 and what follows each higher place among i+1 .. i+m. -/
def bst (l : List Int) (i : Nat) : Nat → Int
  | 0 => 1
  | m + 1 => if l.getD i 0 < l.getD (i + 1 + m) 0 then (if bst l i m < (lens l).getD (i + 1 + m) 0 + 1 then (lens l).getD (i + 1 + m) 0 + 1 else bst l i m) else bst l i m
theorem bst_on (l : List Int) (i m : Nat) (c : l.getD i 0 < l.getD (i + 1 + m) 0) : bst l i (m + 1) = if bst l i m < (lens l).getD (i + 1 + m) 0 + 1 then (lens l).getD (i + 1 + m) 0 + 1 else bst l i m := by
  simp only [bst]; rw [if_pos c]
theorem bst_off (l : List Int) (i m : Nat) (c : ¬ l.getD i 0 < l.getD (i + 1 + m) 0) : bst l i (m + 1) = bst l i m := by
  simp only [bst]; rw [if_neg c]
theorem bst_le (l : List Int) (i : Nat) (hi : i < l.length) : ∀ m, i + m < l.length → 1 ≤ bst l i m ∧ bst l i m ≤ (lens l).getD i 0
  | 0, _ => by
    obtain ⟨n, h1, h2⟩ := lens_get l i hi
    have := ln_pos l i n h1
    unfold bst
    omega
  | m + 1, hm => by
    have ih := bst_le l i hi m (by omega)
    unfold bst
    by_cases c : l.getD i 0 < l.getD (i + 1 + m) 0
    · rw [if_pos c]
      obtain ⟨n, h1, h2⟩ := lens_get l i hi
      obtain ⟨n', h3, h4⟩ := lens_get l (i + 1 + m) (by omega)
      have := ln_less l i (i + 1 + m) _ _ n n' (by omega) (getD_at hi) (getD_at (by omega)) c h1 h3
      split <;> omega
    · rw [if_neg c]; exact ih
theorem bst_ge (l : List Int) (i : Nat) : ∀ m j, i < j → j < i + 1 + m → l.getD i 0 < l.getD j 0 → (lens l).getD j 0 + 1 ≤ bst l i m
  | 0, j, h1, h2, _ => by omega
  | m + 1, j, h1, h2, h3 => by
    unfold bst
    by_cases e : j = i + 1 + m
    · subst e
      rw [if_pos h3]
      split <;> omega
    · have ih := bst_ge l i m j h1 (by omega) h3
      split
      · split <;> omega
      · exact ih
theorem bst_is (l : List Int) (i : Nat) (hi : i < l.length) : bst l i (l.length - i - 1) = (lens l).getD i 0 := by
  have h1 := bst_le l i hi (l.length - i - 1) (by omega)
  obtain ⟨n, h2, h3⟩ := lens_get l i hi
  rcases ln_next l i _ n (getD_at hi) h2 with h | ⟨j, b, g1, g2, g3, g4⟩
  · omega
  · have hj := (List.getElem?_eq_some_iff.1 g2).1
    rw [getD_at hj] at g2
    have hb := Option.some.inj g2
    have h5 := bst_ge l i (l.length - i - 1) j g1 (by omega) (by omega)
    obtain ⟨n', h6, h7⟩ := lens_get l j hj
    rw [h6] at g4
    have := Option.some.inj g4
    have := ln_pos l i n h2
    omega
theorem pick_full (nd : Nat) : ∀ (r : List Int) (s : List Nat) (i m : Nat) (last : Option Int), nd ≤ m → (∀ n ∈ s, 1 ≤ n) → pick nd i m last r s = []
  | [], _, _, _, _, _, _ => by simp [pick]
  | _ :: _, [], _, _, _, _, _ => by simp [pick]
  | x :: r, n :: s, i, m, last, h, hs => by
    simp only [pick]
    have := hs n List.mem_cons_self
    rw [if_neg (fun g => by omega)]
    exact pick_full nd r s (i + 1) m last h (fun n' hn' => hs n' (List.mem_cons_of_mem _ hn'))
theorem ln_drop : ∀ (i : Nat) (l : List Int), ln (l.drop i) = (ln l).drop i
  | 0, _ => rfl
  | i + 1, [] => by simp [ln, go]
  | i + 1, x :: l => by
    rw [List.drop_succ_cons, ln_cons, List.drop_succ_cons]
    exact ln_drop i l
/-- The places that are left of the part: of what is behind place i, with m taken and the last of them 'last'. -/
def rest (l : List Int) (i m : Nat) (last : Option Int) : List Int := pick (need l) i m last (l.drop i) ((ln l).drop i)
theorem rest_start (l : List Int) : rest l 0 0 none = rising l := rfl
theorem rest_full (l : List Int) (i m : Nat) (last : Option Int) (h : need l ≤ m) : rest l i m last = [] :=
  pick_full _ _ _ _ _ _ h (fun n hn => by
    obtain ⟨j, hj⟩ := List.mem_iff_getElem?.1 (List.mem_of_mem_drop hn)
    exact ln_pos l j n hj)
theorem rest_take (l : List Int) (i m : Nat) (last : Option Int) (hi : i < l.length) (h1 : (lens l).getD i 0 + (m : Int) = (need l : Int)) (h2 : ∀ y, last = some y → y < l.getD i 0) : rest l i m last = (i : Int) :: rest l (i + 1) (m + 1) (some (l.getD i 0)) := by
  unfold rest
  have hi' : i < (ln l).length := by rw [ln_length]; exact hi
  obtain ⟨n, h3, h4⟩ := lens_get l i hi
  rw [List.getElem?_eq_getElem hi'] at h3
  have h5 := Option.some.inj h3
  have hx : l.getD i 0 = l[i] := by rw [List.getD_eq_getElem?_getD, List.getElem?_eq_getElem hi]; rfl
  rw [List.drop_eq_getElem_cons hi, List.drop_eq_getElem_cons hi']
  simp only [pick]
  rw [if_pos ⟨by omega, by rw [← hx]; exact h2⟩, hx]
theorem rest_skip (l : List Int) (i m : Nat) (last : Option Int) (hi : i < l.length) (h : ¬ ((lens l).getD i 0 + (m : Int) = (need l : Int) ∧ ∀ y, last = some y → y < l.getD i 0)) : rest l i m last = rest l (i + 1) m last := by
  unfold rest
  have hi' : i < (ln l).length := by rw [ln_length]; exact hi
  obtain ⟨n, h3, h4⟩ := lens_get l i hi
  rw [List.getElem?_eq_getElem hi'] at h3
  have h5 := Option.some.inj h3
  have hx : l.getD i 0 = l[i] := by rw [List.getD_eq_getElem?_getD, List.getElem?_eq_getElem hi]; rfl
  rw [List.drop_eq_getElem_cons hi, List.drop_eq_getElem_cons hi']
  simp only [pick]
  rw [if_neg (fun g => h ⟨by omega, by rw [hx]; exact g.2⟩)]
/-- From place i on none is longer than what is left to take; and one is just as long, if any is left. -/
def Left (l : List Int) (i m : Nat) (last : Option Int) : Prop :=
  (∀ j, i ≤ j → j < l.length → (∀ y, last = some y → y < l.getD j 0) → (lens l).getD j 0 + (m : Int) ≤ (need l : Int)) ∧ m ≤ need l ∧
  (m < need l → ∃ j, i ≤ j ∧ j < l.length ∧ (lens l).getD j 0 + (m : Int) = (need l : Int) ∧ ∀ y, last = some y → y < l.getD j 0)
theorem left_start (l : List Int) : Left l 0 0 none := by
  refine ⟨fun j _ hj _ => ?_, Nat.zero_le _, fun h => ?_⟩
  · obtain ⟨n, h1, h2⟩ := lens_get l j hj
    have := need_le l j n h1
    omega
  · obtain ⟨j, b, h1, h2⟩ := need_is l h
    have hj := (List.getElem?_eq_some_iff.1 h1).1
    obtain ⟨n, h3, h4⟩ := lens_get l j hj
    rw [h3] at h2
    have := Option.some.inj h2
    exact ⟨j, Nat.zero_le _, hj, by omega, fun y hy => by cases hy⟩
theorem left_take {l : List Int} {i m : Nat} (hi : i < l.length) (h1 : (lens l).getD i 0 + (m : Int) = (need l : Int)) : Left l (i + 1) (m + 1) (some (l.getD i 0)) := by
  obtain ⟨n, h3, h4⟩ := lens_get l i hi
  have hn := ln_pos l i n h3
  refine ⟨fun j hj hjl hy => ?_, by omega, fun hlt => ?_⟩
  · obtain ⟨n', h5, h6⟩ := lens_get l j hjl
    have := ln_less l i j _ _ n n' (by omega) (getD_at hi) (getD_at hjl) (hy _ rfl) h3 h5
    omega
  · rcases ln_next l i _ n (getD_at hi) h3 with e | ⟨j, b, g1, g2, g3, g4⟩
    · omega
    · have hjl := (List.getElem?_eq_some_iff.1 g2).1
      rw [getD_at hjl] at g2
      have hb := Option.some.inj g2
      obtain ⟨n', h5, h6⟩ := lens_get l j hjl
      rw [h5] at g4
      have := Option.some.inj g4
      exact ⟨j, by omega, hjl, by omega, fun y hy => by cases hy; omega⟩
theorem left_skip {l : List Int} {i m : Nat} {last : Option Int} (h : Left l i m last) (hn : ¬ ((lens l).getD i 0 + (m : Int) = (need l : Int) ∧ ∀ y, last = some y → y < l.getD i 0)) : Left l (i + 1) m last := by
  refine ⟨fun j hj => h.1 j (by omega), h.2.1, fun hlt => ?_⟩
  obtain ⟨j, h1, h2, h3, h4⟩ := h.2.2 hlt
  refine ⟨j, ?_, h2, h3, h4⟩
  rcases Nat.lt_or_ge i j with g | g
  · omega
  · have : j = i := by omega
    subst this
    exact absurd ⟨h3, h4⟩ hn
/-- Places that are in a part that rises, and those that are not. -/
theorem Rise.mem {l : List Int} : ∀ {ps : List Int} {i : Nat} {last : Option Int}, Rise l i last ps → ∀ p ∈ ps, (i : Int) ≤ p
  | [], _, _, _, p, hp => by cases hp
  | _ :: _, i, _, ⟨q, x, h1, h2, h3, h4, h5⟩, p, hp => by
    rcases List.mem_cons.1 hp with rfl | hp
    · omega
    · have := h5.mem p hp
      omega
end Go.Proofs.Ytnifikpldibbdab.LisPlain
