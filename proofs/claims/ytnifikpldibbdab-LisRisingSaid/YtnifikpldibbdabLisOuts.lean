/- The longest rising part, as the program's rounds pick it. -/
import Derived.Test.YtnifikpldibbdabLisPlain
namespace Go.Proofs.Ytnifikpldibbdab.LisPlain
def mx (ls : List Int) : Int := ls.foldl max 0
theorem mx_take (ls : List Int) (k : Nat) (h : k < ls.length) : mx (ls.take (k + 1)) = if mx (ls.take k) < ls.getD k 0 then ls.getD k 0 else mx (ls.take k) := by
  unfold mx
  rw [List.take_add_one, List.getElem?_eq_getElem h, List.getD_eq_getElem?_getD, List.getElem?_eq_getElem h, List.foldl_append]
  show max _ _ = _
  rw [show (some ls[k]).getD 0 = ls[k] from rfl]
  split <;> omega
theorem mx_cast : ∀ (ls : List Nat) (a : Nat), (ls.map fun (n : Nat) => (n : Int)).foldl max (a : Int) = ((ls.foldl (fun a b => max a b) a : Nat) : Int)
  | [], _ => rfl
  | b :: ls, a => by
    rw [List.map_cons, List.foldl_cons, List.foldl_cons, ← mx_cast ls (max a b)]
    congr 1
    omega
theorem mx_lens (l : List Int) : mx (lens l) = (need l : Int) := mx_cast (ln l) 0
theorem ln_le : ∀ (l : List Int) (n : Nat), n ∈ ln l → n ≤ l.length
  | [], _, h => by cases h
  | x :: r, n, h => by
    rw [ln_cons] at h
    rcases List.mem_cons.1 h with rfl | h
    · have h1 := cnt_le (hd r) x
      have h2 := hd_length r
      rw [List.length_cons]; omega
    · have := ln_le r n h
      rw [List.length_cons]; omega
theorem need_len (l : List Int) : need l ≤ l.length := by
  rcases top_is (ln l) 0 with h | h
  · unfold need top; omega
  · exact ln_le l _ h
/-- The picks among the first i places. -/
def outs (l : List Int) : Nat → List Int
  | 0 => []
  | i + 1 => if (lens l).getD i 0 = (need l : Int) - ((outs l i).length : Int) ∧ ((outs l i) = [] ∨ l.getD ((outs l i).getD ((outs l i).length - 1) 0).toNat 0 < l.getD i 0) then outs l i ++ [(i : Int)] else outs l i
def lastOf (l : List Int) (o : List Int) : Option Int := o.getLast?.map fun p => l.getD p.toNat 0
theorem lastOf_nil (l : List Int) : lastOf l [] = none := rfl
theorem lastOf_push (l o : List Int) (p : Int) : lastOf l (o ++ [p]) = some (l.getD p.toNat 0) := by simp [lastOf]
theorem lastOf_cond (l o : List Int) (x : Int) : (∀ y, lastOf l o = some y → y < x) ↔ (o = [] ∨ l.getD (o.getD (o.length - 1) 0).toNat 0 < x) := by
  unfold lastOf
  rw [List.getLast?_eq_getElem?]
  cases o with
  | nil => simp
  | cons a o =>
    have hl : (a :: o).length - 1 < (a :: o).length := by simp
    rw [List.getD_eq_getElem?_getD, List.getElem?_eq_getElem hl]
    simp
theorem lens_get (l : List Int) (i : Nat) (h : i < l.length) : ∃ n, (ln l)[i]? = some n ∧ (lens l).getD i 0 = (n : Int) := by
  have h1 : i < (ln l).length := by rw [ln_length]; exact h
  refine ⟨(ln l)[i], List.getElem?_eq_getElem h1, ?_⟩
  rw [List.getD_eq_getElem?_getD, lens, List.getElem?_map, List.getElem?_eq_getElem h1]
  rfl
theorem outs_pick (l : List Int) : ∀ (m i : Nat), i + m = l.length → outs l l.length = outs l i ++ pick (need l) i (outs l i).length (lastOf l (outs l i)) (l.drop i) ((ln l).drop i)
  | 0, i, h => by
    have : i = l.length := by omega
    subst this
    rw [List.drop_length]
    simp [pick]
  | m + 1, i, h => by
    have hl : i < l.length := by omega
    have hl' : i < (ln l).length := by rw [ln_length]; exact hl
    rw [outs_pick l m (i + 1) (by omega), List.drop_eq_getElem_cons hl, List.drop_eq_getElem_cons hl']
    obtain ⟨n, hn, hg⟩ := lens_get l i hl
    rw [List.getElem?_eq_getElem hl'] at hn
    have hn' := Option.some.inj hn
    have hx : l.getD i 0 = l[i] := by rw [List.getD_eq_getElem?_getD, List.getElem?_eq_getElem hl]; rfl
    simp only [pick]
    have hc := lastOf_cond l (outs l i) l[i]
    by_cases c : (lens l).getD i 0 = (need l : Int) - ((outs l i).length : Int) ∧ ((outs l i) = [] ∨ l.getD ((outs l i).getD ((outs l i).length - 1) 0).toNat 0 < l.getD i 0)
    · have ho : outs l (i + 1) = outs l i ++ [(i : Int)] := by simp only [outs]; rw [if_pos c]
      rw [ho, lastOf_push, if_pos ⟨by rw [hg] at c; omega, by rw [hc, ← hx]; exact c.2⟩, List.append_assoc, List.length_append, Int.toNat_natCast, hx]
      rfl
    · have ho : outs l (i + 1) = outs l i := by simp only [outs]; rw [if_neg c]
      rw [ho, if_neg (fun g => c ⟨by rw [hg]; omega, by rw [hx, ← hc]; exact g.2⟩)]
theorem outs_on (l : List Int) (i : Nat) (c : (lens l).getD i 0 = (need l : Int) - ((outs l i).length : Int) ∧ ((outs l i) = [] ∨ l.getD ((outs l i).getD ((outs l i).length - 1) 0).toNat 0 < l.getD i 0)) : outs l (i + 1) = outs l i ++ [(i : Int)] := by
  simp only [outs]; rw [if_pos c]
theorem outs_off (l : List Int) (i : Nat) (c : ¬ ((lens l).getD i 0 = (need l : Int) - ((outs l i).length : Int) ∧ ((outs l i) = [] ∨ l.getD ((outs l i).getD ((outs l i).length - 1) 0).toNat 0 < l.getD i 0))) : outs l (i + 1) = outs l i := by
  simp only [outs]; rw [if_neg c]
theorem outs_all (l : List Int) : outs l l.length = rising l := by
  rw [outs_pick l l.length 0 (by omega)]
  rfl
theorem outs_places (l : List Int) : ∀ (i : Nat), i ≤ l.length → ∀ p ∈ outs l i, 0 ≤ p ∧ p < (i : Int)
  | 0, _, p, h => by cases h
  | i + 1, hi, p, h => by
    have ih := outs_places l i (by omega)
    simp only [outs] at h
    split at h
    · rcases List.mem_append.1 h with h | h
      · have := ih p h; omega
      · have : p = (i : Int) := by simpa using h
        omega
    · have := ih p h; omega
theorem outs_short (l : List Int) : ∀ i, (outs l i).length ≤ i
  | 0 => Nat.le_refl _
  | i + 1 => by
    have ih := outs_short l i
    simp only [outs]
    split
    · simp; omega
    · omega
theorem outs_last (l : List Int) (i : Nat) (hi : i ≤ l.length) (h : (outs l i).length ≠ 0) : ∃ q : Nat, (outs l i).getD ((outs l i).length - 1) 0 = (q : Int) ∧ q < i := by
  have hl : (outs l i).length - 1 < (outs l i).length := by omega
  have h1 : (outs l i)[(outs l i).length - 1] ∈ outs l i := List.getElem_mem hl
  have h2 := outs_places l i hi _ h1
  rw [List.getD_eq_getElem?_getD, List.getElem?_eq_getElem hl]
  show ∃ q : Nat, (outs l i)[(outs l i).length - 1] = (q : Int) ∧ q < i
  exact ⟨(outs l i)[(outs l i).length - 1].toNat, by omega, by omega⟩
end Go.Proofs.Ytnifikpldibbdab.LisPlain
