/- Names, and a node's own fields: plain. -/
import Derived.Test.YtnkbgimihikhoaaVtA
import Derived.Test.YtnkbgimihikhoaaPVtx11

namespace Go.Proofs.Ytnkbgimihikhoaa.PVt
open Go.RowKit Go.Proofs.YtnkbgimihikhoaaW.PrintWords Go.Proofs.YtnkbgimihikhoaaW.PrintLast Go.Proofs.YtnkbgimihikhoaaW.PrintMore
set_option linter.unusedVariables false
def okB (c : Int) : Bool := decide (97 ≤ c ∧ c ≤ 122) || (decide (48 ≤ c ∧ c ≤ 57) || decide (c = 45))
/-- Do n bytes from i on stand in a name? -/
def okFrom (s : ByteArray) : Nat → Nat → Bool
  | 0, _ => true
  | n + 1, i => okB (bt s (i : Int)) && okFrom s n (i + 1)
def nameP (s : ByteArray) : Bool := decide (0 < s.size ∧ s.size ≤ 32) && (decide (97 ≤ bt s 0 ∧ bt s 0 ≤ 122) && okFrom s s.size 0)
theorem okFrom_succ (s : ByteArray) (n i : Nat) : okFrom s (n + 1) i = (okB (bt s (i : Int)) && okFrom s n (i + 1)) := rfl
theorem okB_t {c : Int} (h : (97 ≤ c ∧ c ≤ 122) ∨ (48 ≤ c ∧ c ≤ 57) ∨ c = 45) : okB c = true := by unfold okB; rcases h with h | h | h <;> simp [h]
theorem okB_f {c : Int} (h : ¬ ((97 ≤ c ∧ c ≤ 122) ∨ (48 ≤ c ∧ c ≤ 57) ∨ c = 45)) : okB c = false := by
  unfold okB
  rw [decide_eq_false (fun h1 => h (.inl h1)), decide_eq_false (fun h1 => h (.inr (.inl h1))), decide_eq_false (fun h1 => h (.inr (.inr h1)))]; rfl
theorem name_l (s : ByteArray) (hs : s.size ≤ 32) : ∀ (n i k : Nat), i + n = s.size → n + 1 ≤ k → change_Name.l0 k s (s.size : Int) (i : Int) = some (okFrom s n i)
  | 0, i, 0, h, hk => by omega
  | 0, i, k + 1, h, hk => by
    simp only [change_Name.l0]
    rw [if_neg (by omega)]
    rfl
  | n + 1, i, 0, h, hk => by omega
  | n + 1, i, k + 1, h, hk => by
    have go := name_l s hs n (i + 1) k (by omega) (by omega)
    have hw : wrap64 ((i : Int) + 1) = ((i + 1 : Nat) : Int) := by unfold wrap64; omega
    simp only [change_Name.l0]
    rw [if_pos (by omega), if_pos (by omega), if_pos (by omega), hw, go]
    rw [okFrom_succ]
    by_cases h1 : bt s (i : Int) < 97
    · rw [if_pos h1]
      by_cases h2 : bt s (i : Int) < 48
      · rw [if_pos h2]
        by_cases h3 : bt s (i : Int) = 45
        · rw [if_pos h3, okB_t (by omega), Bool.true_and]
        · rw [if_neg h3, okB_f (by omega), Bool.false_and]
      · rw [if_neg h2]
        by_cases h3 : bt s (i : Int) > 57
        · rw [if_pos h3, if_neg (by omega), okB_f (by omega), Bool.false_and]
        · rw [if_neg h3, okB_t (by omega), Bool.true_and]
    · rw [if_neg h1]
      by_cases h2 : bt s (i : Int) > 122
      · rw [if_pos h2, if_neg (by omega), if_pos (by omega), if_neg (by omega), okB_f (by omega), Bool.false_and]
      · rw [if_neg h2, okB_t (by omega), Bool.true_and]
theorem name_f (s : ByteArray) (k : Nat) (hk : 35 ≤ k) : change_Name.f k s = some (nameP s) := by
  obtain ⟨k, rfl⟩ : ∃ j, k = j + 1 := ⟨k - 1, by omega⟩
  unfold change_Name.f nameP
  simp only [change_Name.j0]
  by_cases h1 : s.size = 0
  · rw [if_pos (by omega), if_pos trivial, show decide (0 < s.size ∧ s.size ≤ 32) = false from decide_eq_false (by omega)]; rfl
  · rw [if_neg (by omega)]
    by_cases h2 : 32 < s.size
    · rw [if_pos (by omega), if_pos trivial, show decide (0 < s.size ∧ s.size ≤ 32) = false from decide_eq_false (by omega)]; rfl
    · rw [if_neg (by omega), if_pos (by omega), show decide (0 < s.size ∧ s.size ≤ 32) = true from decide_eq_true (by omega)]
      by_cases h3 : bt s 0 < 97
      · rw [if_pos h3, if_pos trivial, show decide (97 ≤ bt s 0 ∧ bt s 0 ≤ 122) = false from decide_eq_false (by omega)]; rfl
      · rw [if_neg h3]
        by_cases h4 : bt s 0 > 122
        · rw [show decide (bt s 0 > 122) = true from decide_eq_true h4, if_pos rfl, show decide (97 ≤ bt s 0 ∧ bt s 0 ≤ 122) = false from decide_eq_false (by omega)]; rfl
        · rw [show decide (bt s 0 > 122) = false from decide_eq_false h4, if_neg (by simp), show decide (97 ≤ bt s 0 ∧ bt s 0 ≤ 122) = true from decide_eq_true (by omega)]
          have h := name_l s (by omega) s.size 0 k (by omega) (by omega)
          rw [show ((0 : Nat) : Int) = 0 from rfl] at h
          rw [h]; rfl
/-- Why a node's attributes from i on are not right. -/
def attrsFrom (l : List S99) : Nat → Nat → Int
  | 0, _ => 0
  | n + 1, i => if nameP (l.getD i z99).f0 = true then (if (l.getD i z99).f1.size > 256 then 3 else if 0 < i ∧ ¬ Op.bytesLess (l.getD (i - 1) z99).f0.toList (l.getD i z99).f0.toList = true then 2 else attrsFrom l n (i + 1)) else 8
/-- Why a node's own fields are not right. -/
def nodeP (x : S27) : Int := if nameP x.f1 = true then (if x.f2.size > 256 then 3 else if x.f3.length > 4096 then 3 else attrsFrom x.f3 x.f3.length 0) else 8
theorem rd99 (l : List S99) (i : Nat) : rd_T99 l (i : Int) = l.getD i z99 := by unfold rd_T99; rw [Int.toNat_natCast]
end Go.Proofs.Ytnkbgimihikhoaa.PVt
