/- The longest rising part of a list of numbers, in plain lists: no program in sight. -/
namespace Go.Proofs.Ytnifikpldibbdab.LisPlain
/-- How many of the heads are above x, from the first on. -/
def cnt (hs : List Int) (x : Int) : Nat := (hs.takeWhile fun h => decide (x < h)).length
def put (hs : List Int) (n : Nat) (x : Int) : List Int := if n = hs.length then hs ++ [x] else hs.set n x
/-- Of each place how long the longest rising part is that begins there; the greatest heads of parts. -/
def go : List Int → List Nat × List Int
  | [] => ([], [])
  | x :: r => ((cnt (go r).2 x + 1) :: (go r).1, put (go r).2 (cnt (go r).2 x) x)
def ln (l : List Int) : List Nat := (go l).1
def hd (l : List Int) : List Int := (go l).2
def lens (l : List Int) : List Int := (ln l).map fun (n : Nat) => (n : Int)
theorem ln_cons (x : Int) (r : List Int) : ln (x :: r) = (cnt (hd r) x + 1) :: ln r := rfl
theorem hd_cons (x : Int) (r : List Int) : hd (x :: r) = put (hd r) (cnt (hd r) x) x := rfl
theorem ln_length : ∀ l : List Int, (ln l).length = l.length
  | [] => rfl
  | x :: r => by rw [ln_cons, List.length_cons, List.length_cons, ln_length r]
theorem lens_length (l : List Int) : (lens l).length = l.length := by rw [lens, List.length_map, ln_length]
theorem cnt_le (hs : List Int) (x : Int) : cnt hs x ≤ hs.length := (List.takeWhile_sublist _).length_le
theorem cnt_before : ∀ (hs : List Int) (x : Int) (i : Nat) (h : Int), i < cnt hs x → hs[i]? = some h → x < h
  | [], _, _, _, hi, _ => by simp [cnt] at hi
  | a :: hs, x, i, h, hi, hh => by
    unfold cnt at hi
    rw [List.takeWhile_cons] at hi
    by_cases ha : x < a
    · rw [if_pos (by simpa using ha)] at hi
      cases i with
      | zero =>
        have : a = h := by simpa using hh
        omega
      | succ i => exact cnt_before hs x i h (by unfold cnt; simp at hi; omega) (by simpa using hh)
    · rw [if_neg (by simpa using ha)] at hi
      simp at hi
theorem cnt_at : ∀ (hs : List Int) (x : Int) (h : Int), hs[cnt hs x]? = some h → h ≤ x
  | [], _, _, hh => by simp [cnt] at hh
  | a :: hs, x, h, hh => by
    unfold cnt at hh
    rw [List.takeWhile_cons] at hh
    by_cases ha : x < a
    · rw [if_pos (by simpa using ha)] at hh
      rw [List.length_cons, List.getElem?_cons_succ] at hh
      exact cnt_at hs x h hh
    · rw [if_neg (by simpa using ha)] at hh
      have : a = h := by simpa using hh
      omega
/-- Falling, strictly. -/
def Falls (hs : List Int) : Prop := ∀ (i j : Nat) (a b : Int), i < j → hs[i]? = some a → hs[j]? = some b → b < a
theorem cnt_after {hs : List Int} (hf : Falls hs) (x : Int) (i : Nat) (h : Int) (hi : cnt hs x ≤ i) (hh : hs[i]? = some h) : h ≤ x := by
  rcases Nat.lt_or_ge (cnt hs x) i with g | g
  · have hl : cnt hs x < hs.length := by
      have := (List.getElem?_eq_some_iff.1 hh).1
      omega
    have h1 := hf (cnt hs x) i hs[cnt hs x] h g (List.getElem?_eq_getElem hl) hh
    have h2 := cnt_at hs x _ (List.getElem?_eq_getElem hl)
    omega
  · have : i = cnt hs x := by omega
    subst this
    exact cnt_at hs x h hh
theorem put_get (hs : List Int) (n : Nat) (x : Int) (_ : n ≤ hs.length) (i : Nat) : (put hs n x)[i]? = if i = n then some x else hs[i]? := by
  unfold put
  split
  · rename_i h
    by_cases hi : i = n
    · rw [if_pos hi, hi, h, List.getElem?_concat_length]
    · rw [if_neg hi]
      rcases Nat.lt_or_ge i hs.length with g | g
      · rw [List.getElem?_append_left g]
      · rw [List.getElem?_eq_none (by simp; omega), List.getElem?_eq_none g]
  · rename_i h
    rw [List.getElem?_set]
    by_cases hi : i = n
    · rw [if_pos hi.symm, if_pos (by omega), if_pos hi]
    · rw [if_neg (fun g => hi g.symm), if_neg hi]
theorem put_length (hs : List Int) (n : Nat) (x : Int) (_ : n ≤ hs.length) : (put hs n x).length = if n = hs.length then n + 1 else hs.length := by
  unfold put
  split
  · rename_i h; simp [h]
  · simp
theorem hd_falls : ∀ l : List Int, Falls (hd l)
  | [] => fun i j a b _ h _ => by simp [hd, go] at h
  | x :: r => by
    have ih := hd_falls r
    rw [hd_cons]
    intro i j a b hij ha hb
    rw [put_get _ _ _ (cnt_le _ _)] at ha hb
    by_cases h1 : i = cnt (hd r) x
    · rw [if_pos h1] at ha
      rw [if_neg (by omega)] at hb
      have : x = a := by simpa using ha
      subst this
      have hl : cnt (hd r) x < (hd r).length := by
        have := (List.getElem?_eq_some_iff.1 hb).1
        omega
      have h2 := ih (cnt (hd r) x) j _ b (by omega) (List.getElem?_eq_getElem hl) hb
      have h3 := cnt_at (hd r) x _ (List.getElem?_eq_getElem hl)
      omega
    · rw [if_neg h1] at ha
      by_cases h2 : j = cnt (hd r) x
      · rw [if_pos h2] at hb
        have : x = b := by simpa using hb
        subst this
        exact cnt_before (hd r) x i a (by omega) ha
      · rw [if_neg h2] at hb
        exact ih i j a b hij ha hb
theorem hd_length : ∀ l : List Int, (hd l).length ≤ l.length
  | [] => Nat.le_refl _
  | x :: r => by
    have ih := hd_length r
    have h2 := cnt_le (hd r) x
    rw [hd_cons, put_length _ _ _ h2, List.length_cons]
    split <;> omega
/-- Each head is the number of a place of that length. -/
theorem hd_is : ∀ (l : List Int) (k : Nat) (h : Int), (hd l)[k]? = some h → ∃ j : Nat, l[j]? = some h ∧ (ln l)[j]? = some (k + 1)
  | [], k, h, hh => by simp [hd, go] at hh
  | x :: r, k, h, hh => by
    rw [hd_cons, put_get _ _ _ (cnt_le _ _)] at hh
    rw [ln_cons]
    by_cases hk : k = cnt (hd r) x
    · rw [if_pos hk] at hh
      have : x = h := by simpa using hh
      subst this
      exact ⟨0, rfl, by rw [hk]; rfl⟩
    · rw [if_neg hk] at hh
      obtain ⟨j, h1, h2⟩ := hd_is r k h hh
      exact ⟨j + 1, by simpa using h1, by simpa using h2⟩
/-- A place's number is not above the head of its length. -/
theorem hd_top : ∀ (l : List Int) (j : Nat) (x : Int) (n : Nat), l[j]? = some x → (ln l)[j]? = some n → 1 ≤ n ∧ ∃ h, (hd l)[n - 1]? = some h ∧ x ≤ h
  | [], j, x, n, hx, _ => by simp at hx
  | y :: r, j, x, n, hx, hn => by
    rw [ln_cons] at hn
    rw [hd_cons]
    cases j with
    | zero =>
      have h1 : y = x := by simpa using hx
      have h2 : cnt (hd r) y + 1 = n := by simpa using hn
      subst h1
      subst h2
      exact ⟨by omega, y, by rw [Nat.add_sub_cancel, put_get _ _ _ (cnt_le _ _), if_pos rfl], Int.le_refl _⟩
    | succ j =>
      obtain ⟨h1, h, h2, h3⟩ := hd_top r j x n (by simpa using hx) (by simpa using hn)
      refine ⟨h1, ?_⟩
      by_cases hk : n - 1 = cnt (hd r) y
      · refine ⟨y, by rw [put_get _ _ _ (cnt_le _ _), if_pos hk], ?_⟩
        have := cnt_at (hd r) y h (by rw [← hk]; exact h2)
        omega
      · exact ⟨h, by rw [put_get _ _ _ (cnt_le _ _), if_neg hk]; exact h2, h3⟩
/-- What the lengths are: later and higher is shorter. -/
theorem ln_less : ∀ (l : List Int) (i j : Nat) (a b : Int) (m n : Nat), i < j → l[i]? = some a → l[j]? = some b → a < b → (ln l)[i]? = some m → (ln l)[j]? = some n → n < m
  | [], i, j, a, b, m, n, _, ha, _, _, _, _ => by simp at ha
  | x :: r, i, j, a, b, m, n, hij, ha, hb, hab, hm, hn => by
    rw [ln_cons] at hm hn
    cases j with
    | zero => omega
    | succ j =>
      have hb' : r[j]? = some b := by simpa using hb
      have hn' : (ln r)[j]? = some n := by simpa using hn
      cases i with
      | zero =>
        have h1 : x = a := by simpa using ha
        have h2 : cnt (hd r) x + 1 = m := by simpa using hm
        subst h1
        subst h2
        obtain ⟨h3, h, h4, h5⟩ := hd_top r j b n hb' hn'
        have h6 : n - 1 < cnt (hd r) x := by
          rcases Nat.lt_or_ge (n - 1) (cnt (hd r) x) with g | g
          · exact g
          · have := cnt_after (hd_falls r) x (n - 1) h g h4
            omega
        omega
      | succ i => exact ln_less r i j a b m n (by omega) (by simpa using ha) hb' hab (by simpa using hm) hn'
/-- .. and there is one that is just one shorter. -/
theorem ln_next : ∀ (l : List Int) (i : Nat) (a : Int) (m : Nat), l[i]? = some a → (ln l)[i]? = some m → m = 1 ∨ ∃ (j : Nat) (b : Int), i < j ∧ l[j]? = some b ∧ a < b ∧ (ln l)[j]? = some (m - 1)
  | [], i, a, m, ha, _ => by simp at ha
  | x :: r, i, a, m, ha, hm => by
    rw [ln_cons] at hm ⊢
    cases i with
    | zero =>
      have h1 : x = a := by simpa using ha
      have h2 : cnt (hd r) x + 1 = m := by simpa using hm
      subst h1
      subst h2
      by_cases h0 : cnt (hd r) x = 0
      · left; omega
      · right
        have hl : cnt (hd r) x - 1 < (hd r).length := by have := cnt_le (hd r) x; omega
        have h3 := List.getElem?_eq_getElem hl
        obtain ⟨j, h4, h5⟩ := hd_is r _ _ h3
        refine ⟨j + 1, _, by omega, by simpa using h4, cnt_before (hd r) x _ _ (by omega) h3, ?_⟩
        rw [List.getElem?_cons_succ, h5]
        congr 1
        omega
    | succ i =>
      rcases ln_next r i a m (by simpa using ha) (by simpa using hm) with h | ⟨j, b, h1, h2, h3, h4⟩
      · exact .inl h
      · exact .inr ⟨j + 1, b, by omega, by simpa using h2, h3, by simpa using h4⟩
theorem ln_pos (l : List Int) (j n : Nat) (h : (ln l)[j]? = some n) : 1 ≤ n := by
  have hl : j < l.length := by
    have := (List.getElem?_eq_some_iff.1 h).1
    rw [ln_length] at this; exact this
  exact (hd_top l j _ n (List.getElem?_eq_getElem hl) h).1

/-! ### the part that is taken -/
def top (ls : List Nat) : Nat := ls.foldl (fun a b => max a b) 0
theorem top_ge : ∀ (ls : List Nat) (a : Nat), a ≤ ls.foldl (fun a b => max a b) a
  | [], a => Nat.le_refl a
  | b :: ls, a => Nat.le_trans (Nat.le_max_left a b) (top_ge ls (max a b))
theorem top_all : ∀ (ls : List Nat) (a b : Nat), b ∈ ls → b ≤ ls.foldl (fun a b => max a b) a
  | [], _, _, h => by cases h
  | c :: ls, a, b, h => by
    rcases List.mem_cons.1 h with rfl | h
    · exact Nat.le_trans (Nat.le_max_right a b) (top_ge ls _)
    · exact top_all ls _ b h
theorem top_is : ∀ (ls : List Nat) (a : Nat), ls.foldl (fun a b => max a b) a = a ∨ ls.foldl (fun a b => max a b) a ∈ ls
  | [], _ => .inl rfl
  | c :: ls, a => by
    rcases top_is ls (max a c) with h | h
    · show ls.foldl _ (max a c) = a ∨ _
      rw [h]
      rcases Nat.le_total a c with g | g
      · exact .inr (by rw [List.foldl_cons, h, Nat.max_eq_right g]; exact List.mem_cons_self)
      · exact .inl (Nat.max_eq_left g)
    · exact .inr (by rw [List.foldl_cons]; exact List.mem_cons_of_mem _ h)
/-- From place i on: m taken, the last of them 'last'. -/
def pick (need : Nat) : Nat → Nat → Option Int → List Int → List Nat → List Int
  | _, _, _, [], _ => []
  | _, _, _, _ :: _, [] => []
  | i, m, last, x :: r, n :: s => if n + m = need ∧ (∀ y, last = some y → y < x) then (i : Int) :: pick need (i + 1) (m + 1) (some x) r s else pick need (i + 1) m last r s
def need (l : List Int) : Nat := top (ln l)
def rising (l : List Int) : List Int := pick (need l) 0 0 none l (ln l)
theorem pick_length (nd : Nat) : ∀ (r : List Int) (i m : Nat) (last : Option Int), m ≤ nd → (m < nd → ∃ (j : Nat) (b : Int), r[j]? = some b ∧ (ln r)[j]? = some (nd - m) ∧ ∀ y, last = some y → y < b) → (pick nd i m last r (ln r)).length = nd - m
  | [], i, m, last, hm, h => by
    rcases Nat.lt_or_ge m nd with g | g
    · obtain ⟨j, b, h1, _⟩ := h g
      simp at h1
    · simp [pick]; omega
  | x :: r, i, m, last, hm, h => by
    rw [ln_cons]
    simp only [pick]
    split
    · rename_i hc
      rw [List.length_cons, pick_length nd r (i + 1) (m + 1) (some x) (by omega) (fun hlt => ?_)]
      · omega
      · have hn : (ln (x :: r))[0]? = some (cnt (hd r) x + 1) := rfl
        rcases ln_next (x :: r) 0 x _ rfl hn with h1 | ⟨j, b, h1, h2, h3, h4⟩
        · omega
        · obtain ⟨j, rfl⟩ : ∃ q, j = q + 1 := ⟨j - 1, by omega⟩
          refine ⟨j, b, by simpa using h2, ?_, fun y hy => by cases hy; exact h3⟩
          rw [ln_cons, List.getElem?_cons_succ] at h4
          rw [h4]
          congr 1
          omega
    · rename_i hc
      refine pick_length nd r (i + 1) m last hm (fun hlt => ?_)
      obtain ⟨j, b, h1, h2, h3⟩ := h hlt
      cases j with
      | zero =>
        exfalso
        have e1 : x = b := by simpa using h1
        rw [ln_cons] at h2
        have e2 : cnt (hd r) x + 1 = nd - m := by simpa using h2
        exact hc ⟨by omega, fun y hy => by rw [e1]; exact h3 y hy⟩
      | succ j => exact ⟨j, b, by simpa using h1, by rw [ln_cons] at h2; simpa using h2, h3⟩
theorem need_is (l : List Int) (h : 0 < need l) : ∃ (j : Nat) (b : Int), l[j]? = some b ∧ (ln l)[j]? = some (need l) := by
  rcases top_is (ln l) 0 with g | g
  · unfold need top at h; omega
  · obtain ⟨j, hj⟩ := List.mem_iff_getElem?.1 g
    have hl : j < l.length := by
      have := (List.getElem?_eq_some_iff.1 hj).1
      rw [ln_length] at this; exact this
    exact ⟨j, l[j], List.getElem?_eq_getElem hl, hj⟩
theorem rising_length (l : List Int) : (rising l).length = need l := by
  unfold rising
  rw [pick_length (need l) l 0 0 none (Nat.zero_le _) (fun h => ?_)]
  · omega
  · obtain ⟨j, b, h1, h2⟩ := need_is l h
    exact ⟨j, b, h1, by rw [Nat.sub_zero]; exact h2, fun y hy => by cases hy⟩
theorem need_le (l : List Int) (j n : Nat) (h : (ln l)[j]? = some n) : n ≤ need l := top_all (ln l) 0 n (List.mem_of_getElem? h)
end Go.Proofs.Ytnifikpldibbdab.LisPlain
