/- Rising parts in plain lists: none is longer than the one that is taken, and none as long is ahead of it. -/
import Derived.Test.YtnifikpldibbdabLisOuts
namespace Go.Proofs.Ytnifikpldibbdab.LisPlain
/-- Places from i on that rise, the first of them above 'last'. -/
def Rise (l : List Int) : Nat → Option Int → List Int → Prop
  | _, _, [] => True
  | i, last, p :: ps => ∃ (q : Nat) (x : Int), p = (q : Int) ∧ i ≤ q ∧ l[q]? = some x ∧ (∀ y, last = some y → y < x) ∧ Rise l (q + 1) (some x) ps
theorem Rise.lower {l : List Int} {i j : Nat} {last : Option Int} : ∀ {ps : List Int}, i ≤ j → Rise l j last ps → Rise l i last ps
  | [], _, _ => trivial
  | _ :: _, hij, ⟨q, x, h1, h2, h⟩ => ⟨q, x, h1, Nat.le_trans hij h2, h⟩
theorem Rise.len {l : List Int} : ∀ {ps : List Int} {i : Nat} {last : Option Int} {p : Int} {n : Nat}, Rise l i last (p :: ps) → (ln l)[p.toNat]? = some n → (p :: ps).length ≤ n
  | [], i, last, p, n, ⟨q, x, h1, h2, h3, h4, h5⟩, hn => by
    have := ln_pos l _ n hn
    simpa using this
  | p' :: ps, i, last, p, n, ⟨q, x, h1, h2, h3, h4, h5⟩, hn => by
    have h5' := h5
    obtain ⟨q', x', e1, e2, e3, e4, e5⟩ := h5
    have hl : q' < (ln l).length := by rw [ln_length]; exact (List.getElem?_eq_some_iff.1 e3).1
    subst h1
    subst e1
    rw [Int.toNat_natCast] at hn
    have hn' := List.getElem?_eq_getElem hl
    have ih := Rise.len (n := (ln l)[q']) h5' (by rw [Int.toNat_natCast]; exact hn')
    have := ln_less l q q' x x' n _ (by omega) h3 e3 (e4 x rfl) hn hn'
    rw [List.length_cons]
    omega
theorem Rise.need {l : List Int} {i : Nat} {last : Option Int} : ∀ {ps : List Int}, Rise l i last ps → ps.length ≤ need l
  | [], _ => Nat.zero_le _
  | p :: ps, h => by
    have h' := h
    obtain ⟨q, x, h1, h2, h3, h4, h5⟩ := h
    have hl : q < (ln l).length := by rw [ln_length]; exact (List.getElem?_eq_some_iff.1 h3).1
    subst h1
    have hn' := List.getElem?_eq_getElem hl
    exact Nat.le_trans (Rise.len h' (by rw [Int.toNat_natCast]; exact hn')) (need_le l q _ hn')
theorem pick_rise (l : List Int) (nd : Nat) : ∀ (r : List Int) (s : List Nat) (i m : Nat) (last : Option Int), (∀ j, r[j]? = l[i + j]?) → Rise l i last (pick nd i m last r s)
  | [], _, _, _, _, _ => by simp [pick, Rise]
  | _ :: _, [], _, _, _, _ => by simp [pick, Rise]
  | x :: r, n :: s, i, m, last, hr => by
    have hr' : ∀ j, r[j]? = l[i + 1 + j]? := fun j => by
      have := hr (j + 1)
      rw [List.getElem?_cons_succ] at this
      rw [this]
      congr 1
      omega
    simp only [pick]
    split
    · rename_i hc
      exact ⟨i, x, rfl, Nat.le_refl _, (hr 0).symm, hc.2, pick_rise l nd r s (i + 1) (m + 1) (some x) hr'⟩
    · exact Rise.lower (by omega) (pick_rise l nd r s (i + 1) m last hr')
theorem rising_rise (l : List Int) : Rise l 0 none (rising l) := pick_rise l _ l _ 0 0 none (fun j => by rw [Nat.zero_add])
/-- Is a list of places ahead of another one? -/
def ahead : List Int → List Int → Bool
  | a :: as, b :: bs => if a = b then ahead as bs else decide (a < b)
  | _, _ => false
theorem pick_least (l : List Int) (nd : Nat) : ∀ (r : List Int) (s : List Nat) (i m : Nat) (last : Option Int) (ps : List Int), (∀ j, r[j]? = l[i + j]?) → (∀ j, s[j]? = (ln l)[i + j]?) →
    (∀ (j : Nat) (b : Int) (n : Nat), r[j]? = some b → s[j]? = some n → (∀ y, last = some y → y < b) → n + m ≤ nd) → Rise l i last ps → ps.length + m = nd → ahead ps (pick nd i m last r s) = false
  | [], _, _, _, _, ps, _, _, _, _, _ => by cases ps <;> simp [pick, ahead]
  | _ :: _, [], _, _, _, ps, _, _, _, _, _ => by cases ps <;> simp [pick, ahead]
  | _ :: _, _ :: _, _, _, _, [], _, _, _, _, _ => by simp [ahead]
  | x :: r, n :: s, i, m, last, p :: ps, hr, hs, hI, hp, hlen => by
    have hr' : ∀ j, r[j]? = l[i + 1 + j]? := fun j => by
      have := hr (j + 1)
      rw [List.getElem?_cons_succ] at this
      rw [this]
      congr 1
      omega
    have hs' : ∀ j, s[j]? = (ln l)[i + 1 + j]? := fun j => by
      have := hs (j + 1)
      rw [List.getElem?_cons_succ] at this
      rw [this]
      congr 1
      omega
    have hx : l[i]? = some x := (hr 0).symm
    have hn : (ln l)[i]? = some n := (hs 0).symm
    have hp' := hp
    obtain ⟨q, y, h1, h2, h3, h4, h5⟩ := hp
    rw [List.length_cons] at hlen
    simp only [pick]
    split
    · rename_i hc
      unfold ahead
      split
      · rename_i he
        have hq : q = i := by omega
        subst hq
        have hxy : y = x := by rw [hx] at h3; exact (Option.some.inj h3).symm
        subst hxy
        refine pick_least l nd r s (q + 1) (m + 1) (some y) ps hr' hs' (fun j b n' hb hn' hlt => ?_) h5 (by omega)
        have := ln_less l q (q + 1 + j) y b n n' (by omega) hx (by rw [← hr']; exact hb) (hlt y rfl) hn (by rw [← hs']; exact hn')
        omega
      · exact decide_eq_false (by omega)
    · rename_i hc
      by_cases hq : q = i
      · exfalso
        subst hq
        have hxy : y = x := by rw [hx] at h3; exact (Option.some.inj h3).symm
        subst hxy
        have g1 := hI 0 y n rfl rfl h4
        have g2 := Rise.len hp' (n := n) (by rw [h1, Int.toNat_natCast]; exact hn)
        rw [List.length_cons] at g2
        exact hc ⟨by omega, h4⟩
      · exact pick_least l nd r s (i + 1) m last (p :: ps) hr' hs' (fun j b n' hb hn' hlt => hI (j + 1) b n' (by simpa using hb) (by simpa using hn') hlt) ⟨q, y, h1, by omega, h3, h4, h5⟩ (by rw [List.length_cons]; omega)
theorem rising_least (l ps : List Int) (h : Rise l 0 none ps) (hl : ps.length = (rising l).length) : ahead ps (rising l) = false :=
  pick_least l _ l _ 0 0 none ps (fun j => by rw [Nat.zero_add]) (fun j => by rw [Nat.zero_add]) (fun j b n _ hn _ => need_le l j n hn) h (by rw [rising_length] at hl; omega)
theorem rising_most (l ps : List Int) (h : Rise l 0 none ps) : ps.length ≤ (rising l).length := by rw [rising_length]; exact h.need
/-- Is, as a round tells it. -/
def isB (l : List Int) : Option Int → List Int → Bool
  | _, [] => true
  | none, p :: ps => if p < 0 ∨ (l.length : Int) ≤ p then false else isB l (some p) ps
  | some q, p :: ps => if p < 0 ∨ (l.length : Int) ≤ p then false else if p ≤ q ∨ l.getD p.toNat 0 ≤ l.getD q.toNat 0 then false else isB l (some p) ps
theorem getD_at {l : List Int} {q : Nat} (h : q < l.length) : l[q]? = some (l.getD q 0) := by rw [List.getD_eq_getElem?_getD, List.getElem?_eq_getElem h]; rfl
theorem isB_some {l : List Int} : ∀ {ps : List Int} {q : Nat}, q < l.length → (isB l (some (q : Int)) ps = true ↔ Rise l (q + 1) (some (l.getD q 0)) ps)
  | [], q, hq => by simp [isB, Rise]
  | p :: ps, q, hq => by
    simp only [isB, Rise]
    constructor
    · intro h
      split at h
      · cases h
      · split at h
        · cases h
        · rename_i h1 h2
          obtain ⟨a, rfl⟩ : ∃ a : Nat, p = (a : Int) := ⟨p.toNat, by omega⟩
          rw [Int.toNat_natCast, Int.toNat_natCast] at h2
          refine ⟨a, l.getD a 0, rfl, by omega, getD_at (by omega), fun y hy => ?_, (isB_some (by omega)).1 h⟩
          cases hy
          omega
    · rintro ⟨a, x, rfl, h2, h3, h4, h5⟩
      have ha := (List.getElem?_eq_some_iff.1 h3).1
      have hx : l.getD a 0 = x := by rw [getD_at ha] at h3; exact Option.some.inj h3
      have h4' := h4 _ rfl
      rw [if_neg (by omega), if_neg (by rw [Int.toNat_natCast, Int.toNat_natCast, hx]; omega)]
      rw [← hx] at h5
      exact (isB_some ha).2 h5
theorem isB_none {l : List Int} : ∀ {ps : List Int}, (isB l none ps = true ↔ Rise l 0 none ps)
  | [] => by simp [isB, Rise]
  | p :: ps => by
    simp only [isB, Rise]
    constructor
    · intro h
      split at h
      · cases h
      · rename_i h1
        obtain ⟨a, rfl⟩ : ∃ a : Nat, p = (a : Int) := ⟨p.toNat, by omega⟩
        exact ⟨a, l.getD a 0, rfl, by omega, getD_at (by omega), (by intro y hy; cases hy), (isB_some (by omega)).1 h⟩
    · rintro ⟨a, x, rfl, h2, h3, h4, h5⟩
      have ha := (List.getElem?_eq_some_iff.1 h3).1
      have hx : l.getD a 0 = x := by rw [getD_at ha] at h3; exact Option.some.inj h3
      rw [if_neg (by omega)]
      rw [← hx] at h5
      exact (isB_some ha).2 h5
theorem isB_rising (l : List Int) : isB l none (rising l) = true := isB_none.2 (rising_rise l)
end Go.Proofs.Ytnifikpldibbdab.LisPlain
