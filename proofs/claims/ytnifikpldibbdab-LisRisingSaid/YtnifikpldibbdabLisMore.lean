/- A list with a number more at its end; lists that rise, lists that never do; the places that are not in the longest rising part. -/
import Derived.Test.YtnifikpldibbdabLisRise
namespace Go.Proofs.Ytnifikpldibbdab.LisPlain
theorem Rise.app {l : List Int} (x : Int) : ∀ {ps : List Int} {i : Nat} {last : Option Int}, Rise l i last ps → Rise (l ++ [x]) i last ps
  | [], _, _, _ => trivial
  | _ :: _, _, _, ⟨q, y, h1, h2, h3, h4, h5⟩ => ⟨q, y, h1, h2, by rw [List.getElem?_append_left (List.getElem?_eq_some_iff.1 h3).1]; exact h3, h4, h5.app x⟩
theorem Rise.room {l : List Int} : ∀ {ps : List Int} {i : Nat} {last : Option Int}, Rise l i last ps → ps.length ≤ l.length - i
  | [], _, _, _ => Nat.zero_le _
  | _ :: _, _, _, ⟨q, y, h1, h2, h3, h4, h5⟩ => by
    have h6 := h5.room
    have h7 := (List.getElem?_eq_some_iff.1 h3).1
    rw [List.length_cons]
    omega
theorem Rise.cut {l : List Int} {x : Int} : ∀ {ps : List Int} {i : Nat} {last : Option Int}, Rise (l ++ [x]) i last ps → ∃ qs, Rise l i last qs ∧ ps.length ≤ qs.length + 1
  | [], _, _, _ => ⟨[], trivial, Nat.zero_le _⟩
  | p :: ps, i, last, ⟨q, y, h1, h2, h3, h4, h5⟩ => by
    have h7 := (List.getElem?_eq_some_iff.1 h3).1
    rw [List.length_append, List.length_singleton] at h7
    rcases Nat.lt_or_ge q l.length with g | g
    · obtain ⟨qs, g1, g2⟩ := h5.cut
      exact ⟨p :: qs, ⟨q, y, h1, h2, by rw [List.getElem?_append_left g] at h3; exact h3, h4, g1⟩, by rw [List.length_cons, List.length_cons]; omega⟩
    · have h6 := h5.room
      rw [List.length_append, List.length_singleton] at h6
      exact ⟨[], trivial, by rw [List.length_cons]; show _ ≤ 0 + 1; omega⟩
theorem Rise.push {l : List Int} {x : Int} (hx : ∀ (q : Nat) (y : Int), l[q]? = some y → y < x) : ∀ {ps : List Int} {i : Nat} {last : Option Int}, i ≤ l.length → (∀ y, last = some y → y < x) → Rise l i last ps → Rise (l ++ [x]) i last (ps ++ [(l.length : Int)])
  | [], i, last, hi, hl, _ => ⟨l.length, x, rfl, hi, by simp, hl, trivial⟩
  | p :: ps, i, last, hi, hl, ⟨q, y, h1, h2, h3, h4, h5⟩ => by
    have h7 := (List.getElem?_eq_some_iff.1 h3).1
    exact ⟨q, y, h1, h2, by rw [List.getElem?_append_left h7]; exact h3, h4, h5.push hx (by omega) (fun z hz => by cases hz; exact hx q y h3)⟩
theorem more_ge (l : List Int) (x : Int) : need l ≤ need (l ++ [x]) := by
  have := ((rising_rise l).app x).need
  rw [rising_length] at this
  exact this
theorem more_le (l : List Int) (x : Int) : need (l ++ [x]) ≤ need l + 1 := by
  obtain ⟨qs, h1, h2⟩ := (rising_rise (l ++ [x])).cut
  have := h1.need
  rw [rising_length] at h2
  omega
theorem more_top (l : List Int) (x : Int) (hx : ∀ (q : Nat) (y : Int), l[q]? = some y → y < x) : need (l ++ [x]) = need l + 1 := by
  have h := ((rising_rise l).push hx (Nat.zero_le _) (fun y hy => by cases hy)).need
  rw [List.length_append, rising_length, List.length_singleton] at h
  have := more_le l x
  omega
/-- The places from i on that are not in a part. -/
def oth : Nat → Nat → List Int → List Int
  | 0, _, _ => []
  | d + 1, i, [] => (i : Int) :: oth d (i + 1) []
  | d + 1, i, p :: r => if p = (i : Int) then oth d (i + 1) r else (i : Int) :: oth d (i + 1) (p :: r)
theorem up_all (l : List Int) (hu : ∀ (j : Nat), 1 ≤ j → j < l.length → l.getD (j - 1) 0 < l.getD j 0) : ∀ (d i : Nat) (last : Option Int), i + d = l.length → (∀ y, last = some y → 1 ≤ i ∧ y = l.getD (i - 1) 0) → ∃ ps, Rise l i last ps ∧ ps.length = d
  | 0, i, last, _, _ => ⟨[], trivial, rfl⟩
  | d + 1, i, last, hd, hl => by
    obtain ⟨ps, h1, h2⟩ := up_all l hu d (i + 1) (some (l.getD i 0)) (by omega) (fun y hy => by cases hy; exact ⟨by omega, by rw [Nat.add_sub_cancel]⟩)
    refine ⟨(i : Int) :: ps, ⟨i, l.getD i 0, rfl, Nat.le_refl _, getD_at (by omega), fun y hy => ?_, h1⟩, by rw [List.length_cons, h2]⟩
    obtain ⟨g1, rfl⟩ := hl y hy
    exact hu i g1 (by omega)
theorem up_need (l : List Int) (hu : ∀ (j : Nat), 1 ≤ j → j < l.length → l.getD (j - 1) 0 < l.getD j 0) : need l = l.length := by
  obtain ⟨ps, h1, h2⟩ := up_all l hu l.length 0 none (by omega) (fun y hy => by cases hy)
  have := h1.need
  have := need_len l
  omega
theorem oth_full {l : List Int} : ∀ {ps : List Int} {d i : Nat} {last : Option Int}, Rise l i last ps → i + d = l.length → ps.length = d → oth d i ps = []
  | [], d, i, last, _, _, hl => by
    obtain rfl : d = 0 := by simpa using hl.symm
    rfl
  | p :: ps, 0, i, last, _, _, hl => by simp at hl
  | p :: ps, d + 1, i, last, ⟨q, y, h1, h2, h3, h4, h5⟩, hd, hl => by
    have h6 := h5.room
    have h7 := (List.getElem?_eq_some_iff.1 h3).1
    rw [List.length_cons] at hl
    have : q = i := by omega
    subst this
    unfold oth
    rw [if_pos h1]
    exact oth_full h5 (by omega) (by omega)
theorem up_oth (l : List Int) (hu : ∀ (j : Nat), 1 ≤ j → j < l.length → l.getD (j - 1) 0 < l.getD j 0) : oth l.length 0 (rising l) = [] :=
  oth_full (rising_rise l) (by omega) (by rw [rising_length, up_need l hu])
theorem down_far (l : List Int) (hd : ∀ (j : Nat), 1 ≤ j → j < l.length → l.getD j 0 ≤ l.getD (j - 1) 0) : ∀ (m i : Nat), i + m < l.length → l.getD (i + m) 0 ≤ l.getD i 0
  | 0, i, _ => by rw [Nat.add_zero]; exact Int.le_refl _
  | m + 1, i, h => by
    have h1 := down_far l hd m i (by omega)
    have h2 := hd (i + (m + 1)) (by omega) h
    rw [show i + (m + 1) - 1 = i + m from by omega] at h2
    omega
theorem down_rising (l : List Int) (hd : ∀ (j : Nat), 1 ≤ j → j < l.length → l.getD j 0 ≤ l.getD (j - 1) 0) (h0 : 0 < l.length) : rising l = [0] := by
  have hz : Rise l 0 none [0] := ⟨0, l.getD 0 0, rfl, Nat.le_refl _, getD_at h0, (by intro y hy; cases hy), trivial⟩
  have h1 := rising_most l [0] hz
  have hr := rising_rise l
  rw [List.length_singleton] at h1
  match hm : rising l with
  | [] => rw [hm] at h1; simp at h1
  | [p] =>
    have h2 := rising_least l [0] hz (by rw [hm]; rfl)
    rw [hm] at h2 hr
    obtain ⟨q, y, e1, e2, e3, e4, e5⟩ := hr
    unfold LisPlain.ahead at h2
    by_cases c : (0 : Int) = p
    · rw [← c]
    · rw [if_neg c] at h2
      have := of_decide_eq_false h2
      omega
  | p :: p' :: ps =>
    rw [hm] at hr
    obtain ⟨q, y, e1, e2, e3, e4, q', y', f1, f2, f3, f4, f5⟩ := hr
    have g1 := (List.getElem?_eq_some_iff.1 e3).1
    have g2 := (List.getElem?_eq_some_iff.1 f3).1
    rw [getD_at g1] at e3
    rw [getD_at g2] at f3
    have e3' := Option.some.inj e3
    have f3' := Option.some.inj f3
    have h3 := f4 y rfl
    have h4 := down_far l hd (q' - q) q (by omega)
    rw [show q + (q' - q) = q' from by omega] at h4
    omega
end Go.Proofs.Ytnifikpldibbdab.LisPlain
