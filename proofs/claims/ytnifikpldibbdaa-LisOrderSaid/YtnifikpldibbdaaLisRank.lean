/- The longest rising part hangs on the numbers' order alone. -/
import Derived.Test.YtnifikpldibbdaaLisRise
namespace Go.Proofs.Ytnifikpldibbdaa.LisPlain
theorem cnt_map (f : Int → Int) (x : Int) : ∀ (hs : List Int), (∀ h ∈ hs, (f x < f h ↔ x < h)) → cnt (hs.map f) (f x) = cnt hs x
  | [], _ => rfl
  | h :: hs, hf => by
    unfold cnt
    rw [List.map_cons, List.takeWhile_cons, List.takeWhile_cons]
    have ih := cnt_map f x hs (fun h' g => hf h' (List.mem_cons_of_mem _ g))
    have h1 := hf h List.mem_cons_self
    by_cases c : x < h
    · rw [if_pos (by simpa using h1.2 c), if_pos (by simpa using c), List.length_cons, List.length_cons]
      exact congrArg (· + 1) ih
    · rw [if_neg (by simpa using fun g => c (h1.1 g)), if_neg (by simpa using c)]
theorem put_map (f : Int → Int) (hs : List Int) (n : Nat) (x : Int) : put (hs.map f) n (f x) = (put hs n x).map f := by
  unfold put
  rw [List.length_map]
  split
  · rw [List.map_append]; rfl
  · rw [List.map_set]
theorem go_map (f : Int → Int) : ∀ (l : List Int), (∀ x ∈ l, ∀ y ∈ l, (f x < f y ↔ x < y)) → go (l.map f) = ((go l).1, (go l).2.map f)
  | [], _ => rfl
  | x :: r, hf => by
    have ih := go_map f r (fun a ha b hb => hf a (List.mem_cons_of_mem _ ha) b (List.mem_cons_of_mem _ hb))
    have hc : cnt ((go r).2.map f) (f x) = cnt (go r).2 x := cnt_map f x _ (fun h hh => by
      obtain ⟨k, hk⟩ := List.mem_iff_getElem?.1 hh
      obtain ⟨j, h1, _⟩ := hd_is r k h hk
      exact hf x List.mem_cons_self h (List.mem_cons_of_mem _ (List.mem_of_getElem? h1)))
    rw [List.map_cons]
    simp only [go]
    rw [ih]
    show ((cnt ((go r).2.map f) (f x) + 1) :: (go r).1, put ((go r).2.map f) (cnt ((go r).2.map f) (f x)) (f x)) = _
    rw [hc, put_map]
theorem pick_map (f : Int → Int) (nd : Nat) : ∀ (r : List Int) (s : List Nat) (i m : Nat) (last : Option Int), (∀ x ∈ r, ∀ y ∈ r, (f x < f y ↔ x < y)) → (∀ y, last = some y → ∀ x ∈ r, (f y < f x ↔ y < x)) → pick nd i m (last.map f) (r.map f) s = pick nd i m last r s
  | [], _, _, _, _, _, _ => by simp [pick]
  | _ :: _, [], _, _, _, _, _ => by simp [pick]
  | x :: r, n :: s, i, m, last, hf, hl => by
    rw [List.map_cons]
    simp only [pick]
    have hf' : ∀ a ∈ r, ∀ b ∈ r, (f a < f b ↔ a < b) := fun a ha b hb => hf a (List.mem_cons_of_mem _ ha) b (List.mem_cons_of_mem _ hb)
    have hc : (n + m = nd ∧ ∀ y, last.map f = some y → y < f x) ↔ (n + m = nd ∧ ∀ y, last = some y → y < x) := by
      constructor
      · rintro ⟨h1, h2⟩
        refine ⟨h1, fun y hy => (hl y hy x List.mem_cons_self).1 (h2 _ (by rw [hy]; rfl))⟩
      · rintro ⟨h1, h2⟩
        refine ⟨h1, fun y hy => ?_⟩
        obtain ⟨z, hz, rfl⟩ := Option.map_eq_some_iff.1 hy
        exact (hl z hz x List.mem_cons_self).2 (h2 z hz)
    by_cases c : n + m = nd ∧ ∀ y, last = some y → y < x
    · rw [if_pos (hc.2 c), if_pos c]
      congr 1
      exact pick_map f nd r s (i + 1) (m + 1) (some x) hf' (fun y hy a ha => by cases hy; exact hf x List.mem_cons_self a (List.mem_cons_of_mem _ ha))
    · rw [if_neg (fun g => c (hc.1 g)), if_neg c]
      exact pick_map f nd r s (i + 1) m last hf' (fun y hy a ha => hl y hy a (List.mem_cons_of_mem _ ha))
theorem rising_map (f : Int → Int) (l : List Int) (hf : ∀ x ∈ l, ∀ y ∈ l, (f x < f y ↔ x < y)) : rising (l.map f) = rising l := by
  have h1 : ln (l.map f) = ln l := by unfold ln; rw [go_map f l hf]
  unfold rising need
  rw [h1]
  exact pick_map f _ l _ 0 0 none hf (fun y hy => by cases hy)
/-- Of a number how many unlike ones among the first k are below it. -/
def First (l : List Int) (k : Nat) : Prop := ∀ j, j < k → l.getD j 0 ≠ l.getD k 0
instance (l : List Int) (k : Nat) : Decidable (First l k) := inferInstanceAs (Decidable (∀ j, j < k → l.getD j 0 ≠ l.getD k 0))
def below (l : List Int) (x : Int) : Nat → Nat
  | 0 => 0
  | k + 1 => below l x k + if l.getD k 0 < x ∧ First l k then 1 else 0
def rk (l : List Int) (x : Int) : Int := (below l x l.length : Int)
theorem below_le (l : List Int) (x : Int) : ∀ k, below l x k ≤ k
  | 0 => Nat.le_refl _
  | k + 1 => by
    have := below_le l x k
    unfold below
    split <;> omega
theorem below_mono (l : List Int) {x y : Int} (h : x ≤ y) : ∀ k, below l x k ≤ below l y k
  | 0 => Nat.le_refl _
  | k + 1 => by
    have ih := below_mono l h k
    unfold below
    by_cases c : l.getD k 0 < x ∧ First l k
    · rw [if_pos c, if_pos ⟨by have := c.1; omega, c.2⟩]; omega
    · rw [if_neg c]
      split <;> omega
theorem below_less (l : List Int) {x y : Int} (h : x < y) : ∀ k i, First l i → l.getD i 0 = x → i < k → below l x k < below l y k
  | 0, _, _, _, hi => by omega
  | k + 1, i, hF, hx, hi => by
    unfold below
    by_cases e : i = k
    · subst e
      have := below_mono l (x := x) (y := y) (by omega) i
      rw [if_neg (fun g => by have := g.1; omega), if_pos ⟨by omega, hF⟩]
      omega
    · have ih := below_less l h k i hF hx (by omega)
      by_cases c : l.getD k 0 < x ∧ First l k
      · rw [if_pos c, if_pos ⟨by have := c.1; omega, c.2⟩]; omega
      · rw [if_neg c]
        split <;> omega
theorem first_is (l : List Int) (x : Int) : ∀ i, l.getD i 0 = x → ∃ j, j ≤ i ∧ First l j ∧ l.getD j 0 = x := by
  intro i
  induction i using Nat.strongRecOn with
  | ind i ih =>
    intro h
    by_cases c : First l i
    · exact ⟨i, Nat.le_refl _, c, h⟩
    · have : ∃ j, j < i ∧ l.getD j 0 = l.getD i 0 := by
        refine Classical.byContradiction fun g => c (fun j hj he => g ⟨j, hj, he⟩)
      obtain ⟨j, h1, h2⟩ := this
      obtain ⟨q, g1, g2, g3⟩ := ih j h1 (by rw [h2, h])
      exact ⟨q, by omega, g2, g3⟩
theorem rk_less (l : List Int) (x : Int) (hx : x ∈ l) (y : Int) : rk l x < rk l y ↔ x < y := by
  constructor
  · intro h
    refine Classical.byContradiction fun g => ?_
    have := below_mono l (x := y) (y := x) (by omega) l.length
    unfold rk at h
    omega
  · intro h
    obtain ⟨i, hi⟩ := List.mem_iff_getElem?.1 hx
    have hl := (List.getElem?_eq_some_iff.1 hi).1
    rw [getD_at hl] at hi
    obtain ⟨j, h1, h2, h3⟩ := first_is l x i (Option.some.inj hi)
    have := below_less l h l.length j h2 h3 (by omega)
    unfold rk
    omega
theorem rising_rk (l : List Int) : rising (l.map (rk l)) = rising l := rising_map (rk l) l (fun x hx y _ => rk_less l x hx y)
end Go.Proofs.Ytnifikpldibbdaa.LisPlain
