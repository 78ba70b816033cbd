/- What a frame is, in plain lists: the program's and the document's Seal and Open. -/
import Derived.Test.YtnifikpldibbdaaHSeal18
import Derived.Test.YtnifikpldibbdaaHSeal22
import Derived.Test.YtnifikpldibbdaaHSeal23
import Derived.Test.YtnifikpldibbdaaHSeal17
import Derived.Test.YtnifikpldibbdaaPSealx4
import Derived.Test.YtnifikpldibbdaaPSealx10
import Derived.Test.YtnifikpldibbdaaPSealx11
import Derived.Lib.Bytes
import Derived.OpenShut
namespace Go.Proofs.Ytnifikpldibbdaa.PSeal
open Go.RowKit Go.Proofs.YtnifikpldibbdaaW.PrintWords Go.Proofs.YtnifikpldibbdaaW.PrintLast
set_option linter.unusedVariables false

def Wfb (l : List Int) : Prop := ∀ x ∈ l, 0 ≤ x ∧ x ≤ 255
theorem wfb_of {l : List Int} (h : ∀ x ∈ l, (Lit.int .u8 x).wf = true) : Wfb l := fun x hx => bounds_u8 (h x hx)
theorem Wfb.app {l m : List Int} (h : Wfb l) (g : Wfb m) : Wfb (l ++ m) := fun x hx => (List.mem_append.1 hx).elim (h x) (g x)
theorem Wfb.take {l : List Int} (h : Wfb l) (n : Nat) : Wfb (l.take n) := fun x hx => h x (List.mem_of_mem_take hx)
theorem Wfb.drop {l : List Int} (h : Wfb l) (n : Nat) : Wfb (l.drop n) := fun x hx => h x (List.mem_of_mem_drop hx)
theorem Wfb.rd {l : List Int} (h : Wfb l) (i : Int) : 0 ≤ rd l i ∧ rd l i ≤ 255 := by
  show 0 ≤ l.getD i.toNat 0 ∧ l.getD i.toNat 0 ≤ 255
  rw [List.getD_eq_getElem?_getD]
  cases hh : l[i.toNat]? with
  | none => simp
  | some x => exact h x (List.mem_of_getElem? hh)
theorem strOf_eq {a b : List Int} (ha : Wfb a) (hb : Wfb b) : (strOfNums a).toList = (strOfNums b).toList ↔ a = b := by
  constructor
  · intro h
    rw [Lib.strOfNums_toList, Lib.strOfNums_toList] at h
    have inj : ∀ (a b : List Int), Wfb a → Wfb b → (a.map fun n => UInt8.ofNat n.toNat) = (b.map fun n => UInt8.ofNat n.toNat) → a = b := by
      intro a
      induction a with
      | nil => intro b _ _ h; cases b with
        | nil => rfl
        | cons => simp at h
      | cons x a ih =>
        intro b ha hb h
        cases b with
        | nil => simp at h
        | cons y b =>
          rw [List.map_cons, List.map_cons] at h
          injection h with h1 h2
          have hx := ha x (List.mem_cons_self)
          have hy := hb y (List.mem_cons_self)
          have h3 := congrArg UInt8.toNat h1
          rw [UInt8.toNat_ofNat', UInt8.toNat_ofNat'] at h3
          have : x = y := by omega
          subst this
          rw [ih b (fun z hz => ha z (List.mem_cons_of_mem _ hz)) (fun z hz => hb z (List.mem_cons_of_mem _ hz)) h2]
    exact inj a b ha hb h
  · rintro rfl; rfl
def fourL (n : Int) : List Int := [n % 256, n / 256 % 256, n / 65536 % 256, n / 16777216 % 256]
theorem fourL_wf (n : Int) : Wfb (fourL n) := by
  intro x hx
  simp only [fourL, List.mem_cons, List.not_mem_nil, or_false] at hx
  omega
theorem fourL_len (n : Int) : (fourL n).length = 4 := rfl
theorem own_four (n : Int) : seal_four.f n = some (fourL n) := rfl
theorem ref_four {n : Int} (h : 0 ≤ n) : topiaryref04_Four.f n = some (fourL n) := by
  have : topiaryref04_Four.f n = some ([(Int.tmod n 256) % 256, ((Int.tdiv n 256) % 4294967296) % 256, ((Int.tdiv n 65536) % 4294967296) % 256, ((Int.tdiv n 16777216) % 4294967296) % 256] : List Int) := rfl
  have g := four_eq h this
  rw [this, ← g]
  rfl
def num4 (l : List Int) : Int := rd l 0 + 256 * rd l 1 + 65536 * rd l 2 + 16777216 * rd l 3
theorem list4 {l : List Int} (h : l.length = 4) : l = [rd l 0, rd l 1, rd l 2, rd l 3] := by
  match l, h with
  | [a, b, c, d], _ => rfl
theorem num4_range {l : List Int} (hw : Wfb l) : 0 ≤ num4 l ∧ num4 l ≤ 4294967295 := by
  have := hw.rd 0; have := hw.rd 1; have := hw.rd 2; have := hw.rd 3
  unfold num4; omega
theorem fourL_num4 {l : List Int} (hw : Wfb l) (h : l.length = 4) : fourL (num4 l) = l := by
  have h0 := hw.rd 0; have h1 := hw.rd 1; have h2 := hw.rd 2; have h3 := hw.rd 3
  rw [list4 h]
  unfold fourL
  have e : num4 [rd l 0, rd l 1, rd l 2, rd l 3] = num4 l := by rw [← list4 h]
  rw [e]
  unfold num4
  congr 1
  · omega
  · congr 1
    · omega
    · congr 1
      · omega
      · congr 1
        omega
theorem num4_fourL {n : Int} (h0 : 0 ≤ n) (h1 : n ≤ 4294967295) : num4 (fourL n) = n := by
  show n % 256 + 256 * (n / 256 % 256) + 65536 * (n / 65536 % 256) + 16777216 * (n / 16777216 % 256) = n
  omega
theorem crc_range (l : List Int) : 0 ≤ ((crc l : Nat) : Int) ∧ ((crc l : Nat) : Int) ≤ 4294967295 := by
  have : crc l < 4294967296 := xor_lt (by decide) (feed_lt (by decide))
  omega

/-! ### a number of four bytes -/
theorem or_add {a b : Nat} (i : Nat) (h : b < 2 ^ i) : b ||| (a * 2 ^ i) = a * 2 ^ i + b := by
  have := Nat.two_pow_add_eq_or_of_lt h a
  rw [Nat.mul_comm, this, Nat.or_comm]
theorem own_number {l : List Int} (hw : Wfb l) (h : 4 ≤ l.length) : seal_number.f l = some (num4 l) := by
  have h0 := hw.rd 0; have h1 := hw.rd 1; have h2 := hw.rd 2; have h3 := hw.rd 3
  unfold seal_number.f
  rw [if_pos (by omega), if_pos (by omega), if_pos (by omega), if_pos (by omega)]
  unfold num4
  generalize rd l 0 = a at *
  generalize rd l 1 = b at *
  generalize rd l 2 = c at *
  generalize rd l 3 = d at *
  obtain ⟨a, rfl⟩ := Int.eq_ofNat_of_zero_le h0.1
  obtain ⟨b, rfl⟩ := Int.eq_ofNat_of_zero_le h1.1
  obtain ⟨c, rfl⟩ := Int.eq_ofNat_of_zero_le h2.1
  obtain ⟨d, rfl⟩ := Int.eq_ofNat_of_zero_le h3.1
  have ha : a < 256 := by omega
  have hb : b < 256 := by omega
  have hc : c < 256 := by omega
  have hd : d < 256 := by omega
  have e0 : (a : Int) % 4294967296 = ((a : Nat) : Int) := by omega
  have e1 : (b : Int) % 4294967296 * 256 % 4294967296 = ((b * 2 ^ 8 : Nat) : Int) := by omega
  have e2 : (c : Int) % 4294967296 * 65536 % 4294967296 = ((c * 2 ^ 16 : Nat) : Int) := by omega
  have e3 : (d : Int) % 4294967296 * 16777216 % 4294967296 = ((d * 2 ^ 24 : Nat) : Int) := by omega
  rw [e0, e1, e2, e3]
  rw [u32_or_nat a (b * 2 ^ 8) (by omega) (by omega), or_add 8 (by omega)]
  rw [u32_or_nat (b * 2 ^ 8 + a) (c * 2 ^ 16) (by omega) (by omega), or_add 16 (by omega)]
  rw [u32_or_nat (c * 2 ^ 16 + (b * 2 ^ 8 + a)) (d * 2 ^ 24) (by omega) (by omega), or_add 24 (by omega)]
  congr 1
  omega
theorem ref_number {l : List Int} (hw : Wfb l) (h : 4 ≤ l.length) : topiaryref04_Number.f l = some (num4 l) := by
  have h0 := hw.rd 0; have h1 := hw.rd 1; have h2 := hw.rd 2; have h3 := hw.rd 3
  unfold topiaryref04_Number.f
  rw [if_pos (by omega), if_pos (by omega), if_pos (by omega), if_pos (by omega)]
  unfold num4
  rw [w64 (n := rd l 0) (by omega) (by omega), w64 (n := rd l 1) (by omega) (by omega), w64 (n := rd l 2) (by omega) (by omega), w64 (n := rd l 3) (by omega) (by omega)]
  rw [w64 (n := 256 * rd l 1) (by omega) (by omega), w64 (n := 65536 * rd l 2) (by omega) (by omega), w64 (n := 16777216 * rd l 3) (by omega) (by omega)]
  rw [w64 (n := rd l 0 + 256 * rd l 1) (by omega) (by omega), w64 (n := rd l 0 + 256 * rd l 1 + 65536 * rd l 2) (by omega) (by omega), w64 (by omega) (by omega)]

/-! ### Seal -/
def body (a : Int) (l : List Int) : List Int := (a % 256 :: fourL (l.length : Int)) ++ l
def frame (a : Int) (l : List Int) : List Int := body a l ++ fourL ((crc (body a l) : Nat) : Int)
def sealS (a : Int) (l : List Int) : List Int × Int := if a < 1 ∨ a > 15 then ([], 1) else if l.length > 65536 then ([], 3) else (frame a l, 0)
theorem body_len (a : Int) (l : List Int) : (body a l).length = l.length + 5 := by simp [body, fourL]
theorem frame_len (a : Int) (l : List Int) : (frame a l).length = l.length + 9 := by simp [frame, body_len, fourL]
theorem body_wf (a : Int) {l : List Int} (h : Wfb l) : Wfb (body a l) := by
  intro x hx
  rcases List.mem_append.1 hx with hx | hx
  · rcases List.mem_cons.1 hx with rfl | hx
    · omega
    · exact fourL_wf _ x hx
  · exact h x hx
theorem frame_wf (a : Int) {l : List Int} (h : Wfb l) : Wfb (frame a l) := (body_wf a h).app (fourL_wf _)
theorem ev_seal (a : Int) (l : List Int) : Ev (fun k => seal_Seal.f k a l) (sealS a l) := by
  refine ⟨10 * (l.length + 5) + 2, fun k hk => ?_⟩
  obtain ⟨k, rfl⟩ : ∃ m, k = m + 1 := ⟨k - 1, by omega⟩
  have hj : seal_Seal.f (k + 1) a l = seal_Seal.j0 (k + 1) a l (decide (a < 1 ∨ a > 15)) := by
    unfold seal_Seal.f
    by_cases h : a < 1
    · rw [if_pos h, decide_eq_true (Or.inl h)]
    · rw [if_neg h]
      congr 1
      simp [h]
  show seal_Seal.f (k + 1) a l = _
  rw [hj]
  simp only [seal_Seal.j0]
  unfold sealS
  by_cases h : a < 1 ∨ a > 15
  · rw [if_pos (decide_eq_true h), if_pos h]
  · rw [if_neg (by simpa using h), if_neg h]
    by_cases hl : l.length > 65536
    · rw [if_pos (by omega), if_pos hl]
    · rw [if_neg (by omega), if_neg hl]
      have hf : topiaryref04_Four.f ((l.length : Int) % 4294967296) = some (fourL (l.length : Int)) := by rw [ref_four (by omega)]; congr 1; rw [Int.emod_eq_of_lt (by omega) (by omega)]
      rw [Option.bind_some, hf, Option.bind_some, if_pos (by simp [fourL]), Option.bind_some, if_pos (by simp [fourL]; omega), Option.bind_some]
      have hb : [a % 256] ++ fourL (l.length : Int) ++ l = body a l := rfl
      rw [hb, ref_sum _ (by rw [body_len]; omega) k (by rw [body_len]; omega), Option.bind_some, ref_four (crc_range _).1, Option.bind_some, if_pos (by rw [body_len, fourL_len]; omega)]
      rfl
theorem ev_refseal (a : Int) (l : List Int) : Ev (fun k => topiaryref04_Seal.f k a l) (sealS a l) := by
  refine ⟨10 * (l.length + 5) + 2, fun k hk => ?_⟩
  obtain ⟨k, rfl⟩ : ∃ m, k = m + 1 := ⟨k - 1, by omega⟩
  have hj : topiaryref04_Seal.f (k + 1) a l = topiaryref04_Seal.j0 (k + 1) a l (decide (a < 1 ∨ a > 15)) := by
    unfold topiaryref04_Seal.f
    by_cases h : a < 1
    · rw [if_pos h, decide_eq_true (Or.inl h)]
    · rw [if_neg h]
      congr 1
      simp [h]
  show topiaryref04_Seal.f (k + 1) a l = _
  rw [hj]
  simp only [topiaryref04_Seal.j0]
  unfold sealS
  by_cases h : a < 1 ∨ a > 15
  · rw [if_pos (decide_eq_true h), if_pos h]
  · rw [if_neg (by simpa using h), if_neg h]
    by_cases hl : l.length > 65536
    · rw [if_pos (by omega), if_pos hl]
    · rw [if_neg (by omega), if_neg hl]
      have hf : topiaryref04_Four.f ((l.length : Int) % 4294967296) = some (fourL (l.length : Int)) := by rw [ref_four (by omega)]; congr 1; rw [Int.emod_eq_of_lt (by omega) (by omega)]
      rw [Option.bind_some, hf, Option.bind_some, if_pos (by simp [fourL]), Option.bind_some, if_pos (by simp [fourL]; omega), Option.bind_some]
      have hb : [a % 256] ++ fourL (l.length : Int) ++ l = body a l := rfl
      rw [hb, ref_sum _ (by rw [body_len]; omega) k (by rw [body_len]; omega), Option.bind_some, ref_four (crc_range _).1, Option.bind_some, if_pos (by rw [body_len, fourL_len]; omega)]
      rfl

/-! ### Open -/
def openS (p : List Int) : Int × List Int × Int :=
  if p.length < 9 ∨ rd p 0 < 1 ∨ rd p 0 > 15 ∨ num4 (p.drop 1) > 65536 ∨ num4 (p.drop 1) ≠ (p.length : Int) - 9 then (0, [], 2)
  else if num4 (p.drop (p.length - 4)) = ((crc (p.take (p.length - 4)) : Nat) : Int) then (rd p 0, (p.take (p.length - 4)).drop 5, 0) else (0, [], 9)
theorem open_at {p : List Int} (hw : Wfb p) (hl : p.length ≤ 9223372036854775806) (k : Nat) (hk0 : 10 * p.length + 3 ≤ k) : seal_Open.f k p = some (openS p) := by
  have hk : rounds [p.take (p.length - 4)] ≤ k := by simp only [rounds, List.length_take]; omega
  unfold seal_Open.f openS
  by_cases h1 : p.length < 9
  · rw [if_pos (by omega), if_pos (Or.inl h1)]
  rw [if_neg (by omega)]
  by_cases h2 : rd p 0 < 1
  · rw [if_pos h2, if_pos (Or.inr (Or.inl h2))]
  rw [if_neg h2]
  by_cases h3 : rd p 0 > 15
  · rw [if_pos h3, if_pos (Or.inr (Or.inr (Or.inl h3)))]
  rw [if_neg h3, own_number (hw.drop 1) (by rw [List.length_drop]; omega), Option.bind_some]
  by_cases h4 : num4 (p.drop 1) > 65536
  · rw [if_pos h4, if_pos (Or.inr (Or.inr (Or.inr (Or.inl h4))))]
  rw [if_neg h4]
  by_cases h5 : num4 (p.drop 1) ≠ (p.length : Int) - 9
  · rw [if_pos h5, if_pos (Or.inr (Or.inr (Or.inr (Or.inr h5))))]
  rw [if_neg h5, own_number (hw.drop _) (by rw [List.length_drop]; omega), Option.bind_some]
  have hs := own_sum [p.take (p.length - 4)] (by simp) (fun l h => by rw [List.mem_singleton.1 h, List.length_take]; omega) k hk
  rw [List.flatten_cons, List.flatten_nil, List.append_nil] at hs
  rw [hs, Option.bind_some, if_neg (show ¬ (p.length < 9 ∨ rd p 0 < 1 ∨ rd p 0 > 15 ∨ num4 (p.drop 1) > 65536 ∨ num4 (p.drop 1) ≠ (p.length : Int) - 9) from fun h => by
    rcases h with h | h | h | h | h
    · exact h1 h
    · exact h2 h
    · exact h3 h
    · exact h4 h
    · exact h5 h)]
  split <;> rfl
theorem ev_open {p : List Int} (hw : Wfb p) (hl : p.length ≤ 9223372036854775806) : Ev (fun k => seal_Open.f k p) (openS p) := ⟨10 * p.length + 3, fun k hk => open_at hw hl k hk⟩
theorem rd_take_drop {p : List Int} (i : Nat) (hi : i < 4) : rd ((p.take 5).drop 1) (i : Int) = rd (p.drop 1) (i : Int) := by
  show ((p.take 5).drop 1).getD (i : Int).toNat 0 = (p.drop 1).getD (i : Int).toNat 0
  rw [Int.toNat_natCast, List.getD_eq_getElem?_getD, List.getD_eq_getElem?_getD, List.getElem?_drop, List.getElem?_drop, List.getElem?_take, if_pos (by omega)]
theorem num4_take_drop (p : List Int) : num4 ((p.take 5).drop 1) = num4 (p.drop 1) := by
  unfold num4
  have h0 := rd_take_drop (p := p) 0 (by omega)
  have h1 := rd_take_drop (p := p) 1 (by omega)
  have h2 := rd_take_drop (p := p) 2 (by omega)
  have h3 := rd_take_drop (p := p) 3 (by omega)
  rw [show ((0 : Nat) : Int) = 0 from rfl] at h0
  rw [show ((1 : Nat) : Int) = 1 from rfl] at h1
  rw [show ((2 : Nat) : Int) = 2 from rfl] at h2
  rw [show ((3 : Nat) : Int) = 3 from rfl] at h3
  rw [h0, h1, h2, h3]
theorem num4_eq {l : List Int} {n : Int} (hw : Wfb l) (h : l.length = 4) (h0 : 0 ≤ n) (h1 : n ≤ 4294967295) : fourL n = l ↔ num4 l = n := by
  constructor
  · rintro rfl; exact num4_fourL h0 h1
  · rintro rfl; exact fourL_num4 hw h
theorem ev_refopen {p : List Int} (hw : Wfb p) (hl : p.length ≤ 140737488351232) : Ev (fun k => topiaryref04_Open.f k p) (openS p) := by
  refine ⟨10 * p.length + 2, fun k hk => ?_⟩
  obtain ⟨k, rfl⟩ : ∃ m, k = m + 1 := ⟨k - 1, by omega⟩
  show topiaryref04_Open.f (k + 1) p = _
  have ht : topiaryref04_Open.j0 (k + 1) p true = some (0, ([] : List Int), 2) := by simp only [topiaryref04_Open.j0]; rw [if_pos trivial]
  unfold topiaryref04_Open.f openS
  by_cases h1 : p.length < 9
  · rw [if_pos (by omega), if_pos (Or.inl h1), ht]
  rw [if_neg (by omega), if_pos (by omega)]
  by_cases h2 : rd p 0 < 1
  · rw [if_pos h2, if_pos (Or.inr (Or.inl h2)), ht]
  rw [if_neg h2]
  by_cases h3 : rd p 0 > 15
  · rw [if_pos h3, if_pos (Or.inr (Or.inr (Or.inl h3))), ht]
  have hn : topiaryref04_Number.f ((p.take 5).drop 1) = some (num4 (p.drop 1)) := by
    rw [ref_number ((hw.take 5).drop 1) (by rw [List.length_drop, List.length_take]; omega), num4_take_drop]
  rw [if_neg h3, if_pos (by omega), if_pos (by omega), hn, Option.bind_some]
  by_cases h4 : num4 (p.drop 1) > 65536
  · rw [if_pos h4, if_pos (Or.inr (Or.inr (Or.inr (Or.inl h4)))), ht]
  rw [if_neg h4, Option.bind_some, w64 (n := (p.length : Int) - 9) (by omega) (by omega)]
  by_cases h5 : num4 (p.drop 1) ≠ (p.length : Int) - 9
  · rw [if_pos (Or.inr (Or.inr (Or.inr (Or.inr h5)))), show (num4 (p.drop 1) != (p.length : Int) - 9) = true from by simpa using h5, ht]
  rw [show (num4 (p.drop 1) != (p.length : Int) - 9) = false from by simpa using h5]
  rw [if_neg (show ¬ (p.length < 9 ∨ rd p 0 < 1 ∨ rd p 0 > 15 ∨ num4 (p.drop 1) > 65536 ∨ num4 (p.drop 1) ≠ (p.length : Int) - 9) from fun h => by
    rcases h with h | h | h | h | h
    · exact h1 h
    · exact h2 h
    · exact h3 h
    · exact h4 h
    · exact h5 h)]
  have hq : (wrap64 ((p.length : Int) - 4)).toNat = p.length - 4 := by rw [w64 (by omega) (by omega)]; omega
  have h9 : p.length ≤ 65545 := by omega
  simp only [topiaryref04_Open.j0]
  rw [if_neg (by simp), if_pos (by rw [w64 (by omega) (by omega)]; omega), if_pos (by rw [w64 (by omega) (by omega)]; omega), hq]
  rw [ref_sum _ (by rw [List.length_take]; omega) k (by rw [List.length_take]; omega), Option.bind_some, ref_four (crc_range _).1, Option.bind_some]
  have h10 : (p.drop (p.length - 4)).length = 4 := by rw [List.length_drop]; omega
  have hx := num4_eq (hw.drop (p.length - 4)) h10 (crc_range (p.take (p.length - 4))).1 (crc_range (p.take (p.length - 4))).2
  by_cases h6 : num4 (p.drop (p.length - 4)) = ((crc (p.take (p.length - 4)) : Nat) : Int)
  · have hr := hw.rd 0
    rw [if_pos ((strOf_eq (fourL_wf _) (hw.drop _)).2 (hx.2 h6)), if_pos (by omega), Option.bind_some, if_pos (by rw [w64 (by omega) (by omega)]; omega), if_pos (by rw [List.length_drop, List.length_take]; simp; omega), if_pos h6, w64 (n := rd p 0) (by omega) (by omega)]
    rfl
  · rw [if_neg (fun h => h6 (hx.1 ((strOf_eq (fourL_wf _) (hw.drop _)).1 h))), if_neg h6]

/-! ### awake -/
theorem crc_check : crc [49, 50, 51, 52, 53, 54, 55, 56, 57] = 3421780262 := by decide +kernel
theorem ev_awake : Ev (fun k => topiarylaw04_awake.f k) true := by
  obtain ⟨K, hK⟩ := ev_seal 2 [97]
  refine ⟨max K (rounds [[49, 50, 51, 52], [53, 54, 55, 56, 57]]), fun k hk => ?_⟩
  show topiarylaw04_awake.f k = _
  unfold topiarylaw04_awake.f
  have h1 := hK k (by omega)
  have h2 : sealS 2 [97] = (frame 2 [97], 0) := rfl
  have h3 := own_sum [[49, 50, 51, 52], [53, 54, 55, 56, 57]] (by decide) (by decide) k (by omega)
  have h4 : ([[49, 50, 51, 52], [53, 54, 55, 56, 57]] : List (List Int)).flatten = [49, 50, 51, 52, 53, 54, 55, 56, 57] := rfl
  rw [h4, crc_check] at h3
  have hl : (frame 2 [97]).length = 10 := rfl
  have r0 : rd (frame 2 [97]) 0 = 2 := rfl
  have r5 : rd (frame 2 [97]) 5 = 97 := rfl
  dsimp only at h1
  rw [h1, h2, Option.bind_some]
  dsimp only
  rw [if_pos rfl, hl, if_pos (by decide), if_pos (by decide), r0, if_pos rfl, if_pos (by decide), r5, if_pos rfl, h3, Option.bind_some]
  rfl
end Go.Proofs.Ytnifikpldibbdaa.PSeal
