/- What the references of lis tell, in plain lists. -/
import Derived.Test.YtnifikpldibbdabLisLoops
namespace Go.Proofs.Ytnifikpldibbdab.Pure
open Go.RowKit Go.Proofs.Ytnifikpldibbdab.PLis Go.Proofs.YtnifikpldibbdabW.PrintWords Go.Proofs.YtnifikpldibbdabW.PrintLast LisPlain
theorem getD_set {l : List Int} {i j : Nat} {v : Int} (hi : i < l.length) : (l.set i v).getD j 0 = if j = i then v else l.getD j 0 := by
  rw [List.getD_eq_getElem?_getD, List.getElem?_set]
  by_cases c : j = i
  · rw [if_pos c, if_pos c.symm, if_pos hi]; rfl
  · rw [if_neg c, if_neg (fun h => c h.symm), List.getD_eq_getElem?_getD]
theorem begins_l1 (l : List Int) (hl : l.length ≤ 1000) (i : Nat) (hi : i < l.length) (r : List Int)
    (hnext : ∀ out : List Int, out.length = l.length → (∀ j, i ≤ j → j < l.length → out.getD j 0 = (lens l).getD j 0) → ∃ q, topiaryref16_Begins.l0 q l out ((i : Int) - 1) = some r) :
    ∀ (d m : Nat) (out : List Int), i + 1 + m + d = l.length → out.length = l.length → (∀ j, i < j → j < l.length → out.getD j 0 = (lens l).getD j 0) → out.getD i 0 = bst l i m → ∃ q, topiaryref16_Begins.l1 q l out (i : Int) ((i + 1 + m : Nat) : Int) = some r
  | 0, m, out, hd, ho, hj, hb => by
    obtain ⟨q, h⟩ := hnext out ho (fun j h1 h2 => by
      by_cases c : j = i
      · subst c
        rw [hb, ← bst_is l j h2]
        congr 1
        omega
      · exact hj j (by omega) h2)
    refine ⟨q + 1, ?_⟩
    simp only [topiaryref16_Begins.l1]
    rw [if_neg (by omega), w64 (by omega) (by omega)]
    exact h
  | d + 1, m, out, hd, ho, hj, hb => by
    have hk : i + 1 + m < l.length := by omega
    obtain ⟨n, hn1, hn2⟩ := lens_get l (i + 1 + m) hk
    have hn3 := ln_le l n (List.mem_of_getElem? hn1)
    have e : (((i + 1 + m : Nat) : Int) + 1) = ((i + 1 + (m + 1) : Nat) : Int) := by omega
    by_cases c : l.getD i 0 < l.getD (i + 1 + m) 0
    · obtain ⟨q, h⟩ := begins_l1 l hl i hi r hnext d (m + 1) (out.set i (bst l i (m + 1))) (by omega) (by rw [List.length_set]; exact ho) (fun j h1 h2 => by rw [getD_set (by omega), if_neg (by omega)]; exact hj j h1 h2) (by rw [getD_set (by omega), if_pos rfl])
      refine ⟨q + 1, ?_⟩
      simp only [topiaryref16_Begins.l1]
      rw [if_pos (by omega), if_pos (by omega), if_pos (by omega), if_pos (by omega), rd_nat, rd_nat, if_pos c, if_pos (by omega), if_pos (by omega), rd_nat, rd_nat, Int.toNat_natCast, w64 (n := ((i + 1 + m : Nat) : Int) + 1) (by omega) (by omega), e, hb, hj _ (by omega) hk, w64 (by omega) (by omega)]
      have hm : Go.Proofs.YtnifikpldibbdabW.PrintWords.mx (bst l i m) ((lens l).getD (i + 1 + m) 0 + 1) = bst l i (m + 1) := by
        rw [bst_on l i m c]
        rfl
      rw [hm]
      exact h
    · obtain ⟨q, h⟩ := begins_l1 l hl i hi r hnext d (m + 1) out (by omega) ho hj (by rw [hb, bst_off l i m c])
      refine ⟨q + 1, ?_⟩
      simp only [topiaryref16_Begins.l1]
      rw [if_pos (by omega), if_pos (by omega), if_pos (by omega), if_pos (by omega), rd_nat, rd_nat, if_neg (by omega), w64 (n := ((i + 1 + m : Nat) : Int) + 1) (by omega) (by omega), e]
      exact h
theorem begins_l0 (l : List Int) (hl : l.length ≤ 1000) : ∀ (n : Nat) (out : List Int), n ≤ l.length → out.length = l.length → (∀ j, n ≤ j → j < l.length → out.getD j 0 = (lens l).getD j 0) → ∃ q, topiaryref16_Begins.l0 q l out ((n : Int) - 1) = some (lens l)
  | 0, out, hn, ho, hj => by
    refine ⟨1, ?_⟩
    simp only [topiaryref16_Begins.l0]
    rw [if_neg (by omega)]
    congr 1
    apply List.ext_getElem?
    intro j
    by_cases c : j < l.length
    · rw [getD_at (l := out) (by omega), getD_at (l := lens l) (by rw [lens_length]; exact c), hj j (Nat.zero_le _) c]
    · rw [List.getElem?_eq_none (by omega), List.getElem?_eq_none (by rw [lens_length]; omega)]
  | n + 1, out, hn, ho, hj => by
    have hi : n < l.length := by omega
    obtain ⟨q, h⟩ := begins_l1 l hl n hi (lens l) (fun out' h1 h2 => begins_l0 l hl n out' (by omega) h1 h2) (l.length - n - 1) 0 (out.set n 1) (by omega) (by rw [List.length_set]; exact ho)
      (fun j h1 h2 => by rw [getD_set (by omega), if_neg (by omega)]; exact hj j (by omega) h2) (by rw [getD_set (by omega), if_pos rfl]; rfl)
    refine ⟨q + 1, ?_⟩
    simp only [topiaryref16_Begins.l0]
    rw [show ((n + 1 : Nat) : Int) - 1 = (n : Int) from by omega, if_pos (by omega), if_pos (by omega), if_pos (by omega), Int.toNat_natCast, w64 (by omega) (by omega)]
    exact h
theorem begins_at (l : List Int) (hl : l.length ≤ 1000) : ∃ k, topiaryref16_Begins.f k l = some (lens l) := by
  obtain ⟨q, h⟩ := begins_l0 l hl l.length (List.replicate l.length 0) (Nat.le_refl _) (by simp) (fun j h1 h2 => absurd h1 (by omega))
  refine ⟨q, ?_⟩
  unfold topiaryref16_Begins.f
  rw [if_pos (by omega), if_pos (by omega), Int.toNat_natCast, w64 (by omega) (by omega)]
  exact h
theorem refr_l2 (l : List Int) (hl : l.length ≤ 1000) : ∀ (d i m : Nat) (out : List Int) (p : Int) (last : Option Int), i + d = l.length → LisPlain.Left l i m last → m < need l → out.length ≤ i →
    ((p = -1 ∧ last = none) ∨ ∃ q : Nat, p = (q : Int) ∧ q < l.length ∧ last = some (l.getD q 0)) → ∃ q, topiaryref16_Rising.l2 q l (lens l) ((need l : Int) - (m : Int)) out p (i : Int) = some (out ++ rest l i m last)
  | 0, i, m, out, p, last, hd, hL, hm, ho, hp => by
    obtain ⟨j, h1, h2, _⟩ := hL.2.2 hm
    omega
  | d + 1, i, m, out, p, last, hd, hL, hm, ho, hp => by
    have hi : i < l.length := by omega
    have hll := lens_length l
    have hnl := need_len l
    have e : ((i : Int) + 1) = ((i + 1 : Nat) : Int) := by omega
    by_cases c : (lens l).getD i 0 + (m : Int) = (need l : Int) ∧ ∀ y, last = some y → y < l.getD i 0
    · have hl1 : ∃ q, topiaryref16_Rising.l1 q l (lens l) (wrap64 ((need l : Int) - (m : Int) - 1)) (out ++ [(i : Int)]) (i : Int) = some (out ++ rest l i m last) := by
        rw [rest_take l i m last hi c.1 c.2, w64 (by omega) (by omega), show (need l : Int) - (m : Int) - 1 = (need l : Int) - ((m + 1 : Nat) : Int) from by omega]
        have hL' := left_take hi c.1
        by_cases c2 : m + 1 < need l
        · obtain ⟨q, h⟩ := refr_l2 l hl d (i + 1) (m + 1) (out ++ [(i : Int)]) (i : Int) (some (l.getD i 0)) (by omega) hL' c2 (by rw [List.length_append, List.length_singleton]; omega) (.inr ⟨i, rfl, hi, rfl⟩)
          refine ⟨q + 1, ?_⟩
          simp only [topiaryref16_Rising.l1]
          rw [if_pos (by omega), w64 (by omega) (by omega), e, h, List.append_assoc]
          rfl
        · refine ⟨1, ?_⟩
          simp only [topiaryref16_Rising.l1]
          rw [if_neg (by omega), rest_full l (i + 1) (m + 1) _ (by omega)]
      obtain ⟨q, h⟩ := hl1
      refine ⟨q + 1, ?_⟩
      simp only [topiaryref16_Rising.l2]
      rw [if_pos (by omega), if_pos (by omega), if_pos (by omega), rd_nat, rd_nat, if_pos (by omega)]
      rcases hp with ⟨rfl, rfl⟩ | ⟨q', rfl, hq', rfl⟩
      · rw [if_pos (by omega), if_pos (by omega)]
        exact h
      · have := c.2 _ rfl
        rw [if_neg (by omega), if_pos (by omega), if_pos (by omega), rd_nat, if_pos (by omega), if_pos (by omega)]
        exact h
    · obtain ⟨q, h⟩ := refr_l2 l hl d (i + 1) m out p last (by omega) (left_skip hL c) hm (by omega) hp
      rw [← rest_skip l i m last hi c] at h
      refine ⟨q + 1, ?_⟩
      simp only [topiaryref16_Rising.l2]
      rw [if_pos (by omega), if_pos (by omega), if_pos (by omega), rd_nat, rd_nat, w64 (n := (i : Int) + 1) (by omega) (by omega), e, h]
      by_cases c2 : (lens l).getD i 0 ≥ (need l : Int) - (m : Int)
      · rw [if_pos c2]
        have hn : ¬ ∀ y, last = some y → y < l.getD i 0 := fun g => by
          have := hL.1 i (Nat.le_refl _) hi g
          exact c ⟨by omega, g⟩
        rcases hp with ⟨rfl, rfl⟩ | ⟨q', rfl, hq', rfl⟩
        · exact absurd (fun y hy => by cases hy) hn
        · rw [if_neg (by omega), if_pos (by omega), if_pos (by omega), rd_nat, if_neg (fun g => hn (fun y hy => by cases hy; omega))]
      · rw [if_neg c2]
theorem refr_l0 (l : List Int) (hl : l.length ≤ 1000) : ∀ (d i : Nat), i + d = l.length → ∃ q, topiaryref16_Rising.l0 q l (lens l) (LisPlain.mx ((lens l).take i)) (i : Int) = some (rising l)
  | 0, i, hd => by
    have hll := lens_length l
    have hnl := need_len l
    have hmx : LisPlain.mx ((lens l).take i) = (need l : Int) := by rw [List.take_of_length_le (by omega), mx_lens]
    by_cases c : 0 < need l
    · obtain ⟨q, h⟩ := refr_l2 l hl l.length 0 0 [] (-1) none (by omega) (left_start l) c (Nat.le_refl _) (.inl ⟨rfl, rfl⟩)
      refine ⟨q + 2, ?_⟩
      simp only [topiaryref16_Rising.l0]
      rw [if_neg (by omega), hmx]
      simp only [topiaryref16_Rising.l1]
      rw [if_pos (by omega), w64 (by omega) (by omega)]
      have h' := h
      rw [show ((need l : Int) - ((0 : Nat) : Int)) = (need l : Int) from by omega] at h'
      exact h'
    · refine ⟨2, ?_⟩
      simp only [topiaryref16_Rising.l0]
      rw [if_neg (by omega), hmx]
      simp only [topiaryref16_Rising.l1]
      rw [if_neg (by omega), ← rest_start, rest_full l 0 0 none (by omega)]
  | d + 1, i, hd => by
    have hll := lens_length l
    obtain ⟨q, h⟩ := refr_l0 l hl d (i + 1) (by omega)
    refine ⟨q + 1, ?_⟩
    simp only [topiaryref16_Rising.l0]
    rw [if_pos (by omega), if_pos (by omega), if_pos (by omega), w64 (by omega) (by omega), rd_nat]
    have hm : Go.Proofs.YtnifikpldibbdabW.PrintWords.mx (LisPlain.mx ((lens l).take i)) ((lens l).getD i 0) = LisPlain.mx ((lens l).take (i + 1)) := by
      rw [mx_take _ _ (by omega)]
      rfl
    rw [hm]
    exact h
theorem refr_at (l : List Int) (hl : l.length ≤ 1000) : ∃ k, topiaryref16_Rising.f k l = some (rising l) := by
  obtain ⟨a, h1⟩ := begins_at l hl
  obtain ⟨b, h2⟩ := refr_l0 l hl l.length 0 (by omega)
  refine ⟨a + b, ?_⟩
  unfold topiaryref16_Rising.f
  rw [more_rounds (fun k => topiaryref16_Begins.mono l k) a b _ h1, Option.bind_some]
  have := more_rounds (fun k => (topiaryref16_Rising.mono_l k).1 l (lens l) 0 0) b a _ h2
  rw [Nat.add_comm] at this
  exact this
theorem refo_l1 (l ins out : List Int) (hl : l.length ≤ 1000) (hn : ins.length ≤ 1000) (ho : out.length ≤ 1000) (i : Nat) (hi : i < l.length) (r : List Int) (hnext : ∃ q, topiaryref16_Others.l0 q l ins (if (i : Int) ∈ ins then out else out ++ [(i : Int)]) ((i + 1 : Nat) : Int) = some r) :
    ∀ (d k : Nat) (b : Bool), k + d = ins.length → (b = true ↔ ∃ q, q < k ∧ ins.getD q 0 = (i : Int)) → ∃ q, topiaryref16_Others.l1 q l ins out (i : Int) b (k : Int) = some r
  | 0, k, b, hd, hb => by
    obtain ⟨q, h⟩ := hnext
    have hin : b = true ↔ (i : Int) ∈ ins := by
      rw [hb]
      constructor
      · rintro ⟨q, h1, h2⟩
        rw [← h2]
        exact List.mem_of_getElem? (getD_at (by omega))
      · intro h
        obtain ⟨q, hq⟩ := List.mem_iff_getElem?.1 h
        have := (List.getElem?_eq_some_iff.1 hq).1
        rw [getD_at this] at hq
        exact ⟨q, by omega, Option.some.inj hq⟩
    refine ⟨q + 1, ?_⟩
    simp only [topiaryref16_Others.l1]
    rw [if_neg (by omega), w64 (n := (i : Int) + 1) (by omega) (by omega), show ((i : Int) + 1) = ((i + 1 : Nat) : Int) from by omega]
    by_cases c : b = true
    · rw [if_pos c]
      rw [if_pos (hin.1 c)] at h
      exact h
    · rw [if_neg c, if_pos (by omega)]
      rw [if_neg (fun g => c (hin.2 g))] at h
      exact h
  | d + 1, k, b, hd, hb => by
    have e : ((k : Int) + 1) = ((k + 1 : Nat) : Int) := by omega
    by_cases c : b = true
    · obtain ⟨q, h⟩ := refo_l1 l ins out hl hn ho i hi r hnext d (k + 1) true (by omega) (by
        refine ⟨fun _ => ?_, fun _ => rfl⟩
        obtain ⟨q, h1, h2⟩ := hb.1 c
        exact ⟨q, by omega, h2⟩)
      refine ⟨q + 1, ?_⟩
      simp only [topiaryref16_Others.l1]
      rw [if_pos (by omega), if_pos c, w64 (n := (k : Int) + 1) (by omega) (by omega), e]
      exact h
    · obtain ⟨q, h⟩ := refo_l1 l ins out hl hn ho i hi r hnext d (k + 1) (ins.getD k 0 == (i : Int)) (by omega) (by
        rw [beq_iff_eq]
        refine ⟨fun h => ⟨k, by omega, h⟩, ?_⟩
        rintro ⟨q, h1, h2⟩
        by_cases g : q = k
        · rw [← g]; exact h2
        · exact absurd (hb.2 ⟨q, by omega, h2⟩) c)
      refine ⟨q + 1, ?_⟩
      simp only [topiaryref16_Others.l1]
      rw [if_pos (by omega), if_neg c, if_pos (by omega), w64 (n := (k : Int) + 1) (by omega) (by omega), e, rd_nat]
      exact h
theorem refo_l0 (l ins : List Int) (hl : l.length ≤ 1000) (hn : ins.length ≤ 1000) : ∀ (d i : Nat) (pre ps out : List Int) (last : Option Int), i + d = l.length → ins = pre ++ ps → (∀ p ∈ pre, p < (i : Int)) → Rise l i last ps → out.length ≤ i →
    ∃ q, topiaryref16_Others.l0 q l ins out (i : Int) = some (out ++ oth d i ps)
  | 0, i, pre, ps, out, last, hd, he, hp, hR, ho => by
    refine ⟨1, ?_⟩
    simp only [topiaryref16_Others.l0]
    rw [if_neg (by omega)]
    simp [oth]
  | d + 1, i, pre, ps, out, last, hd, he, hp, hR, ho => by
    have hput : ∀ ps : List Int, ins = pre ++ ps → (∀ p ∈ pre, p < ((i + 1 : Nat) : Int)) → Rise l (i + 1) last ps → ∃ q, topiaryref16_Others.l0 q l ins (out ++ [(i : Int)]) ((i + 1 : Nat) : Int) = some (out ++ (i : Int) :: oth d (i + 1) ps) := fun ps he hp hR => by
      obtain ⟨q, h⟩ := refo_l0 l ins hl hn d (i + 1) pre ps (out ++ [(i : Int)]) last (by omega) he hp hR (by rw [List.length_append, List.length_singleton]; omega)
      refine ⟨q, ?_⟩
      rw [h, List.append_assoc]
      rfl
    have hnext : ∃ q, topiaryref16_Others.l0 q l ins (if (i : Int) ∈ ins then out else out ++ [(i : Int)]) ((i + 1 : Nat) : Int) = some (out ++ oth (d + 1) i ps) := by
      match ps, he, hR with
      | [], he, hR =>
        rw [if_neg (fun g => by rw [he, List.append_nil] at g; have := hp _ g; omega)]
        exact hput [] he (fun p h => by have := hp p h; omega) trivial
      | p :: r, he, hR =>
        obtain ⟨q, x, h1, h2, h3, h4, h5⟩ := hR
        by_cases c : p = (i : Int)
        · rw [if_pos (by rw [he, ← c]; simp)]
          have := refo_l0 l ins hl hn d (i + 1) (pre ++ [p]) r out (some x) (by omega) (by rw [he, List.append_assoc]; rfl) (fun p' h => by
            rcases List.mem_append.1 h with h | h
            · have := hp p' h; omega
            · have : p' = p := by simpa using h
              omega) (h5.lower (by omega)) (by omega)
          unfold oth
          rw [if_pos c]
          obtain ⟨z, hz⟩ := this
          exact ⟨z, hz⟩
        · have hnot : (i : Int) ∉ ins := fun g => by
            rw [he] at g
            rcases List.mem_append.1 g with g | g
            · have := hp _ g; omega
            · rcases List.mem_cons.1 g with g | g
              · exact c g.symm
              · have := h5.mem _ g
                omega
          rw [if_neg hnot]
          unfold oth
          rw [if_neg c]
          exact hput (p :: r) he (fun p h => by have := hp p h; omega) ⟨q, x, h1, by omega, h3, h4, h5⟩
    obtain ⟨q, h⟩ := refo_l1 l ins out hl hn (by omega) i (by omega) _ hnext ins.length 0 false (by omega) (by simp)
    refine ⟨q + 1, ?_⟩
    simp only [topiaryref16_Others.l0]
    rw [if_pos (by omega)]
    exact h
theorem refo_at (l : List Int) (hl : l.length ≤ 1000) : ∃ k, topiaryref16_Others.f k l = some (oth l.length 0 (rising l)) := by
  obtain ⟨a, h1⟩ := refr_at l hl
  have hr : (rising l).length ≤ l.length := by rw [rising_length]; exact need_len l
  obtain ⟨b, h2⟩ := refo_l0 l (rising l) hl (by omega) l.length 0 [] (rising l) [] none (by omega) rfl (fun p hp => by cases hp) (rising_rise l) (Nat.le_refl _)
  refine ⟨a + b, ?_⟩
  unfold topiaryref16_Others.f
  rw [more_rounds (fun k => topiaryref16_Rising.mono l k) a b _ h1, Option.bind_some]
  have := more_rounds (fun k => (topiaryref16_Others.mono_l k).1 l (rising l) [] 0) b a _ h2
  rw [Nat.add_comm] at this
  exact this
theorem oth_short : ∀ (d i : Nat) (ps : List Int), (oth d i ps).length ≤ d
  | 0, _, _ => Nat.le_refl _
  | d + 1, i, [] => by
    have := oth_short d (i + 1) []
    simp only [oth, List.length_cons]
    omega
  | d + 1, i, p :: r => by
    have h1 := oth_short d (i + 1) r
    have h2 := oth_short d (i + 1) (p :: r)
    simp only [oth]
    split
    · omega
    · rw [List.length_cons]; omega
end Go.Proofs.Ytnifikpldibbdab.Pure
