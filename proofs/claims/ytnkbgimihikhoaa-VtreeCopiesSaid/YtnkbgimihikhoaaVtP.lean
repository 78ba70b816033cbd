/- The document's Same and Copy, as they are printed: plain. -/
import Derived.Test.YtnkbgimihikhoaaVtG
import Derived.Test.YtnkbgimihikhoaaVtR
import Derived.Test.YtnkbgimihikhoaaPVtx6
namespace Go.Proofs.Ytnkbgimihikhoaa.PVt
open Go.RowKit Go.Proofs.YtnkbgimihikhoaaW.PrintWords Go.Proofs.YtnkbgimihikhoaaW.PrintLast Go.Proofs.YtnkbgimihikhoaaW.PrintMore
set_option linter.unusedVariables false
theorem reach_eq : reachBytes = 140737488351232 := by decide
mutual
/-- So many rounds are enough. -/
def wtT : S27 → Nat
  | ⟨_, _, _, a, l⟩ => a.length + wtTs l + 4
def wtTs : List S27 → Nat
  | [] => 0
  | x :: l => wtT x + wtTs l
end
theorem wtT_eq (x : S27) : wtT x = x.f3.length + wtTs x.f4 + 4 := by cases x; simp [wtT]
theorem wtTs_drop (l : List S27) {k : Nat} (h : k < l.length) : wtTs (l.drop k) = wtT (l.getD k z27) + wtTs (l.drop (k + 1)) := by rw [drop27 l h, wtTs]
theorem eqTs_nil : eqTs [] [] = true := by simp [eqTs]
attribute [local irreducible] wtT wtTs szT szTs eqT eqTs fitT fitTs
theorem rd27 (l : List S27) (i : Nat) : rd_T27 l (i : Int) = l.getD i z27 := by unfold rd_T27; rw [Int.toNat_natCast]
theorem rattrs_l (l m : List S99) (hl : l.length ≤ 9223372036854775807) (he : l.length = m.length) : ∀ (n i k : Nat), i + n = l.length → n + 1 ≤ k → topiaryref15_SameAttrs.l0 k l m (i : Int) = some (eqAs (l.drop i) (m.drop i))
  | 0, i, 0, h, hk => by omega
  | 0, i, k + 1, h, hk => by
    simp only [topiaryref15_SameAttrs.l0]
    rw [if_neg (by omega), List.drop_eq_nil_of_le (show l.length ≤ i by omega), List.drop_eq_nil_of_le (show m.length ≤ i by omega)]
    rfl
  | n + 1, i, 0, h, hk => by omega
  | n + 1, i, k + 1, h, hk => by
    have go := rattrs_l l m hl he n (i + 1) k (by omega) (by omega)
    have hw := wrap_in (k := i) (n := l.length) (by omega) hl
    simp only [topiaryref15_SameAttrs.l0]
    rw [if_pos (by omega), if_pos (by omega), if_pos (by omega), hw, go, rd99, rd99, show eqAs (l.drop i) (m.drop i) = _ from eqAs_drop (k := i) (by omega) (by omega)]
    unfold eqA
    cases (l.getD i z99).f0.toList == (m.getD i z99).f0.toList <;> cases (l.getD i z99).f1.toList == (m.getD i z99).f1.toList <;> rfl
theorem rattrs_f (l m : List S99) (hl : l.length ≤ 9223372036854775807) (k : Nat) (hk : l.length + 1 ≤ k) : topiaryref15_SameAttrs.f k l m = some (eqAs l m) := by
  unfold topiaryref15_SameAttrs.f
  by_cases h : l.length = m.length
  · rw [if_pos (by omega)]
    have := rattrs_l l m hl h l.length 0 k (by omega) hk
    rw [show ((0 : Nat) : Int) = 0 from rfl] at this
    rw [this, List.drop_zero, List.drop_zero]
  · rw [if_neg (by omega), eqAs_len l m h]
def sameR (k : Nat) (x y : S27) : Option Bool := topiaryref15_Same.f k x.f0.f0 x.f0.f1 x.f1 x.f2 x.f3 x.f4 y.f0.f0 y.f0.f1 y.f1 y.f2 y.f3 y.f4
def sameL (k : Nat) (i : Int) (x y : S27) : Option Bool := topiaryref15_Same.l0 k i x.f0.f0 x.f0.f1 x.f1 x.f2 x.f3 x.f4 y.f0.f0 y.f0.f1 y.f1 y.f2 y.f3 y.f4
theorem rsame_l (q : Nat) (ih : ∀ (x y : S27) (k : Nat), szT x ≤ q → fitT x → wtT x ≤ k → sameR k x y = some (eqT x y)) (x y : S27) (hq : szTs x.f4 ≤ q) (hf : fitTs x.f4) (hl : x.f4.length ≤ 9223372036854775807) (he : x.f4.length = y.f4.length) :
    ∀ (n i k : Nat), i + n = x.f4.length → wtTs (x.f4.drop i) + 1 ≤ k → sameL k (i : Int) x y = some (eqTs (x.f4.drop i) (y.f4.drop i))
  | 0, i, 0, h, hk => by omega
  | 0, i, k + 1, h, hk => by
    simp only [sameL, topiaryref15_Same.l0]
    rw [if_neg (by omega), List.drop_eq_nil_of_le (show x.f4.length ≤ i by omega), List.drop_eq_nil_of_le (show y.f4.length ≤ i by omega), eqTs_nil]
  | n + 1, i, 0, h, hk => by omega
  | n + 1, i, k + 1, h, hk => by
    rw [wtTs_drop x.f4 (k := i) (by omega)] at hk
    have hw4 := wtT_eq (x.f4.getD i z27)
    have go := rsame_l q ih x y hq hf hl he n (i + 1) k (by omega) (by omega)
    have hw := wrap_in (k := i) (n := x.f4.length) (by omega) hl
    have hkid := ih (x.f4.getD i z27) (y.f4.getD i z27) k (Nat.le_trans (szT_kid x.f4 (by omega)) hq) (fitTs_get hf (by omega)) (by omega)
    unfold sameL at go ⊢
    unfold sameR at hkid
    have c1 : (i : Int) < (x.f4.length : Int) := by omega
    have c2 : (0 : Int) ≤ (i : Int) := Int.natCast_nonneg i
    have c3 : (i : Int) < (y.f4.length : Int) := by omega
    have d1 : i < x.f4.length := by omega
    have d2 : i < y.f4.length := by omega
    clear hk hw4 h
    simp only [topiaryref15_Same.l0]
    rw [if_pos c1, if_pos c2, if_pos c3, rd27, rd27, hkid, Option.bind_some, hw, go, eqTs_drop d1 d2]
    cases eqT (x.f4.getD i z27) (y.f4.getD i z27) <;> rfl
theorem rsame_f : ∀ (q : Nat) (x y : S27) (k : Nat), szT x ≤ q → fitT x → wtT x ≤ k → sameR k x y = some (eqT x y)
  | 0, x, y, k, h, _, _ => by have := szT_pos x; omega
  | q + 1, x, y, k, h, hf, hk => by
    have hsz := szT_eq x
    have hwt := wtT_eq x
    obtain ⟨f1, f2, ⟨f3, _⟩, f4, f5⟩ := (fitT_eq x).1 hf
    rw [reach_eq] at f3 f4
    obtain ⟨k, rfl⟩ : ∃ j, k = j + 2 := ⟨k - 2, by omega⟩
    have hA := rattrs_f x.f3 y.f3 (by omega) (k + 1) (by omega)
    have hj : ∀ (i : Nat), 0 < i → wtTs x.f4 + 1 ≤ i → x.f4.length = y.f4.length → topiaryref15_Same.l0 i 0 x.f0.f0 x.f0.f1 x.f1 x.f2 x.f3 x.f4 y.f0.f0 y.f0.f1 y.f1 y.f2 y.f3 y.f4 = some (eqTs x.f4 y.f4) := fun i _ hi he => by
      have := rsame_l q (fun x y k h1 h2 h3 => rsame_f q x y k h1 h2 h3) x y (by omega) f5 (by omega) he x.f4.length 0 i (by omega) (by rw [List.drop_zero]; exact hi)
      unfold sameL at this
      rw [show ((0 : Nat) : Int) = 0 from rfl, List.drop_zero, List.drop_zero] at this
      exact this
    unfold sameR
    simp only [topiaryref15_Same.f, topiaryref15_Same.j0]
    rw [eqT_eq, hA]
    unfold sameK
    cases h0 : x.f0.f0 == y.f0.f0 with
    | false => simp
    | true =>
      cases h1 : x.f0.f1 == y.f0.f1 with
      | false => simp
      | true =>
        by_cases h2 : x.f1.toList = y.f1.toList
        · rw [if_neg (by simp), if_pos h2, show (x.f1.toList == y.f1.toList) = true from beq_iff_eq.2 h2]
          by_cases h3 : x.f2.toList = y.f2.toList
          · rw [if_pos h3, show (x.f2.toList == y.f2.toList) = true from beq_iff_eq.2 h3, Option.bind_some]
            cases eqAs x.f3 y.f3 with
            | false => simp
            | true =>
              by_cases h4 : x.f4.length = y.f4.length
              · rw [if_pos rfl, show ((x.f4.length : Int) != (y.f4.length : Int)) = false from by rw [bne, beq_iff_eq.2 (show (x.f4.length : Int) = y.f4.length by omega)]; rfl, if_neg (by simp), hj k (by omega) (by omega) h4]
                simp
              · rw [if_pos rfl, show ((x.f4.length : Int) != (y.f4.length : Int)) = true from by rw [bne, beq_eq_false_iff_ne.2 (show (x.f4.length : Int) ≠ y.f4.length by omega)]; rfl, if_pos rfl, eqTs_len _ _ h4]
                simp
          · rw [if_neg h3, show (x.f2.toList == y.f2.toList) = false from beq_eq_false_iff_ne.2 h3]
            simp
        · rw [if_neg (by simp), if_neg h2, show (x.f1.toList == y.f1.toList) = false from beq_eq_false_iff_ne.2 h2]
          simp
theorem rsame_calls (w : World) (x y : S27) (A4 : Option Addr) (c4 : Nat) (A5 : Option Addr) (c5 : Nat) (B4 : Option Addr) (e4 : Nat) (B5 : Option Addr) (e5 : Nat) (hx : RK w x A4 c4 A5 c5) (hy : RK w y B4 e4 B5 e5) (hf : fitT x) :
    Calls Try.prog 14 #[.agg #[.int .i64 x.f0.f0, .int .i64 x.f0.f1, .string x.f1, .string x.f2, .slice A4 x.f3.length c4, .slice A5 x.f4.length c5], .agg #[.int .i64 y.f0.f0, .int .i64 y.f0.f1, .string y.f1, .string y.f2, .slice B4 y.f3.length e4, .slice B5 y.f4.length e5]] w fun e w' => e = .returned (.bool (eqT x y)) ∧ Below w.heap.size w w' :=
  topiaryref15_Same.calls (wtT x) _ _ _ _ A4 c4 x.f3 A5 c5 x.f4 _ _ _ _ B4 e4 y.f3 B5 e5 y.f4 _ w hx.2.1 hx.1 hx.2.2.2 hx.2.2.1 hy.2.1 hy.1 hy.2.2.2 hy.2.2.1 (rsame_f (szT x) x y (wtT x) (Nat.le_refl _) hf (Nat.le_refl _))
theorem take_small {l : List S27} {i : Nat} (h : i < l.length) (hl : l.length ≤ 1466015503701) : (l.take i).length < 1466015503701 := Nat.lt_of_le_of_lt (List.length_take_le _ _) (Nat.lt_of_lt_of_le h hl)
theorem attr_small {n : Nat} (h : n * 32 ≤ 140737488351232) : n < 4398046511104 := by omega
theorem kid_small {n : Nat} (h : n * 96 ≤ 140737488351232) : n ≤ 1466015503701 := by omega
theorem eta27 (x : S27) : (⟨⟨x.f0.f0, x.f0.f1⟩, x.f1, x.f2, x.f3, x.f4⟩ : S27) = x := by cases x; rfl
def copyR (k : Nat) (x : S27) : Option (Int × Int × ByteArray × ByteArray × (List S99) × (List S27)) := topiaryref15_Copy.f k x.f0.f0 x.f0.f1 x.f1 x.f2 x.f3 x.f4
theorem rcopy_l (q : Nat) (ih : ∀ (x : S27) (k : Nat), szT x ≤ q → fitT x → wtT x ≤ k → copyR k x = some (x.f0.f0, x.f0.f1, x.f1, x.f2, x.f3, x.f4)) (x : S27) (hq : szTs x.f4 ≤ q) (hf : fitTs x.f4) (hl : x.f4.length ≤ 1466015503701) :
    ∀ (n i k : Nat), i + n = x.f4.length → wtTs (x.f4.drop i) + 1 ≤ k → topiaryref15_Copy.l0 k (i : Int) x.f0.f0 x.f0.f1 x.f1 x.f2 x.f3 x.f4 x.f0.f0 x.f0.f1 x.f1 x.f2 x.f3 (x.f4.take i) = some (x.f0.f0, x.f0.f1, x.f1, x.f2, x.f3, x.f4)
  | 0, i, 0, h, hk => by omega
  | 0, i, k + 1, h, hk => by
    simp only [topiaryref15_Copy.l0]
    rw [if_neg (by omega), List.take_of_length_le (by omega)]
  | n + 1, i, 0, h, hk => by omega
  | n + 1, i, k + 1, h, hk => by
    rw [wtTs_drop x.f4 (k := i) (by omega)] at hk
    have hw4 := wtT_eq (x.f4.getD i z27)
    have go := rcopy_l q ih x hq hf hl n (i + 1) k (by omega) (by omega)
    have hw := wrap_in (k := i) (n := x.f4.length) (by omega) (Nat.le_trans hl (by decide))
    have hkid := ih (x.f4.getD i z27) k (Nat.le_trans (szT_kid x.f4 (by omega)) hq) (fitTs_get hf (by omega)) (by omega)
    unfold copyR at hkid
    have c1 : (i : Int) < (x.f4.length : Int) := by omega
    have c2 : (0 : Int) ≤ (i : Int) := Int.natCast_nonneg i
    have d1 : i < x.f4.length := by omega
    have c3 := take_small d1 hl
    clear hk hw4 h
    simp only [topiaryref15_Copy.l0]
    rw [if_pos c1, if_pos c2, rd27, hkid, Option.bind_some, if_pos c3, hw]
    rw [take_snoc27 x.f4 d1] at go
    rw [eta27]
    exact go
theorem rcopy_f : ∀ (q : Nat) (x : S27) (k : Nat), szT x ≤ q → fitT x → wtT x ≤ k → copyR k x = some (x.f0.f0, x.f0.f1, x.f1, x.f2, x.f3, x.f4)
  | 0, x, k, h, _, _ => by have := szT_pos x; omega
  | q + 1, x, k, h, hf, hk => by
    have hsz := szT_eq x
    have hwt := wtT_eq x
    obtain ⟨f1, f2, ⟨f3, _⟩, f4, f5⟩ := (fitT_eq x).1 hf
    rw [reach_eq] at f3 f4
    obtain ⟨k, rfl⟩ : ∃ j, k = j + 1 := ⟨k - 1, by omega⟩
    have := rcopy_l q (fun x k h1 h2 h3 => rcopy_f q x k h1 h2 h3) x (by omega) f5 (kid_small f4) x.f4.length 0 k (Nat.zero_add _) (by rw [List.drop_zero]; omega)
    rw [show ((0 : Nat) : Int) = 0 from rfl, List.take_zero] at this
    unfold copyR
    simp only [topiaryref15_Copy.f]
    rw [Option.bind_some, if_pos (by rw [List.length_nil, Nat.zero_add]; exact attr_small f3), List.nil_append]
    exact this
end Go.Proofs.Ytnkbgimihikhoaa.PVt
