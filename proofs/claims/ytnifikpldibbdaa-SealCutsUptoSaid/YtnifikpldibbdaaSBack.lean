/- A frame opened is what was sealed, and what can be opened is the frame of it. -/
import Derived.Test.YtnifikpldibbdaaSLaw
namespace Go.Proofs.Ytnifikpldibbdaa.PSeal
open Go.RowKit Go.Proofs.YtnifikpldibbdaaW.PrintWords Go.Proofs.YtnifikpldibbdaaW.PrintLast
theorem rd_nat (l : List Int) (i : Nat) : rd l (i : Int) = l[i]?.getD 0 := by
  show l.getD (i : Int).toNat 0 = _
  rw [Int.toNat_natCast, List.getD_eq_getElem?_getD]
theorem num4_nat (l : List Int) : num4 l = l[0]?.getD 0 + 256 * l[1]?.getD 0 + 65536 * l[2]?.getD 0 + 16777216 * l[3]?.getD 0 := by
  have h0 := rd_nat l 0
  have h1 := rd_nat l 1
  have h2 := rd_nat l 2
  have h3 := rd_nat l 3
  show rd l ((0 : Nat) : Int) + 256 * rd l ((1 : Nat) : Int) + 65536 * rd l ((2 : Nat) : Int) + 16777216 * rd l ((3 : Nat) : Int) = _
  rw [h0, h1, h2, h3]
theorem num4_app (n : Int) (l : List Int) (h0 : 0 ≤ n) (h1 : n ≤ 4294967295) : num4 (fourL n ++ l) = n := by
  have h := num4_fourL h0 h1
  rw [num4_nat] at h ⊢
  exact h
theorem num4_take (l : List Int) : num4 (l.take 4) = num4 l := by
  rw [num4_nat, num4_nat l]
  simp only [List.getElem?_take]
  rfl
theorem body_take (a : Int) (l : List Int) : (frame a l).take ((frame a l).length - 4) = body a l := by
  have h : (frame a l).length - 4 = (body a l).length := by rw [frame_len, body_len]; omega
  rw [h]
  exact List.take_left
theorem body_drop (a : Int) (l : List Int) : (frame a l).drop ((frame a l).length - 4) = fourL ((crc (body a l) : Nat) : Int) := by
  have h : (frame a l).length - 4 = (body a l).length := by rw [frame_len, body_len]; omega
  rw [h]
  exact List.drop_left
theorem open_frame {a : Int} {l : List Int} (ha : 1 ≤ a) (ha' : a ≤ 15) (hl : l.length ≤ 65536) : openS (frame a l) = (a, l, 0) := by
  have hr : rd (frame a l) 0 = a := by
    show a % 256 = a
    omega
  have hd : (frame a l).drop 1 = fourL (l.length : Int) ++ (l ++ fourL ((crc (body a l) : Nat) : Int)) := by
    show (fourL (l.length : Int) ++ l) ++ fourL _ = _
    rw [List.append_assoc]
  unfold openS
  rw [hr, hd, num4_app _ _ (by omega) (by omega), body_take, body_drop, num4_fourL (crc_range _).1 (crc_range _).2, frame_len]
  rw [if_neg (by omega), if_pos rfl]
  rfl
theorem list_five {q : List Int} (h : 5 ≤ q.length) : q = rd q 0 :: ((q.drop 1).take 4 ++ q.drop 5) := by
  match q, h with
  | a :: b :: c :: d :: e :: r, _ => rfl
theorem frame_open {p : List Int} (hw : Wfb p) (h : (openS p).2.2 = 0) : sealS (openS p).1 (openS p).2.1 = (p, 0) := by
  unfold openS at h ⊢
  split at h
  · cases h
  rename_i hn
  rw [if_neg hn]
  by_cases hc : num4 (p.drop (p.length - 4)) = ((crc (p.take (p.length - 4)) : Nat) : Int)
  case neg => rw [if_neg hc] at h; cases h
  rw [if_pos hc]
  clear h
  dsimp only
  have h1 : ¬ p.length < 9 := fun g => hn (Or.inl g)
  have h2 : ¬ rd p 0 < 1 := fun g => hn (Or.inr (Or.inl g))
  have h3 : ¬ rd p 0 > 15 := fun g => hn (Or.inr (Or.inr (Or.inl g)))
  have h4 : ¬ num4 (p.drop 1) > 65536 := fun g => hn (Or.inr (Or.inr (Or.inr (Or.inl g))))
  have h5 : num4 (p.drop 1) = (p.length : Int) - 9 := Decidable.not_not.1 (fun g => hn (Or.inr (Or.inr (Or.inr (Or.inr g)))))
  generalize hq : p.take (p.length - 4) = q at *
  have hql : q.length = p.length - 4 := by rw [← hq, List.length_take]; omega
  have hq0 : rd q 0 = rd p 0 := by
    rw [show (0 : Int) = ((0 : Nat) : Int) from rfl, rd_nat, rd_nat, ← hq, List.getElem?_take, if_pos (by omega)]
  have hq1 : num4 ((q.drop 1).take 4) = num4 (p.drop 1) := by
    rw [num4_take, num4_nat, num4_nat (p.drop 1), ← hq]
    simp only [List.getElem?_drop, List.getElem?_take]
    rw [if_pos (by omega), if_pos (by omega), if_pos (by omega), if_pos (by omega)]
  have hqw : Wfb q := by rw [← hq]; exact hw.take _
  have h5' : (q.drop 5).length = p.length - 9 := by rw [List.length_drop]; omega
  have hb : body (rd p 0) (q.drop 5) = q := by
    unfold body
    rw [h5', show ((p.length - 9 : Nat) : Int) = num4 ((q.drop 1).take 4) from by rw [hq1, h5]; omega, fourL_num4 ((hqw.drop 1).take 4) (by rw [List.length_take, List.length_drop]; omega), show rd p 0 % 256 = rd q 0 from by rw [hq0]; omega, List.cons_append, ← list_five (by omega)]
  have hf : frame (rd p 0) (q.drop 5) = p := by
    unfold frame
    rw [hb, ← hc, fourL_num4 (hw.drop _) (by rw [List.length_drop]; omega), ← hq, List.take_append_drop]
  unfold sealS
  rw [if_neg (by omega), if_neg (by omega), hf]
end Go.Proofs.Ytnifikpldibbdaa.PSeal
