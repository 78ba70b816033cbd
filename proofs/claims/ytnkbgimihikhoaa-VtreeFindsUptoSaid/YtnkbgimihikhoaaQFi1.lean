/- What the statement's row needs of this session's texts, joined by program: part 2. -/
import Derived.Deep.QuietTactic
import Derived.BigQuiet
import Derived.WalkKit
import Derived.IntWalk
import Derived.Laws.Cover1
import Derived.Maps.Own
import Derived.RangeFuncNested
import Derived.RangeFuncBound
import Derived.RangeFuncCalls
import Derived.RangeFuncLeaves
import Derived.RangeFuncBox
import Derived.Shelf.Abstract
import Derived.Shelf.RegionOpen
import Derived.OwnWalkIn
import Derived.TacticsInMore
import Derived.LoopNIn
import Derived.LoopIn
import Derived.ControlIn
import Derived.Sort.CutIn
import Derived.Test.YtnkbgimihikhoaaQFi0
namespace Go.Proofs.Ytnkbgimihikhoaa.PVt
open Go.RowKit Go.Proofs.YtnkbgimihikhoaaW.PrintWords Go.Proofs.YtnkbgimihikhoaaW.PrintLast Go.Proofs.YtnkbgimihikhoaaW.PrintMore
set_option linter.unusedVariables false
def okB (c : Int) : Bool := decide (97 ≤ c ∧ c ≤ 122) || (decide (48 ≤ c ∧ c ≤ 57) || decide (c = 45))
/-- Do n bytes from i on stand in a name? -/
def okFrom (s : ByteArray) : Nat → Nat → Bool
  | 0, _ => true
  | n + 1, i => okB (bt s (i : Int)) && okFrom s n (i + 1)
def nameP (s : ByteArray) : Bool := decide (0 < s.size ∧ s.size ≤ 32) && (decide (97 ≤ bt s 0 ∧ bt s 0 ≤ 122) && okFrom s s.size 0)
theorem okFrom_succ (s : ByteArray) (n i : Nat) : okFrom s (n + 1) i = (okB (bt s (i : Int)) && okFrom s n (i + 1)) := rfl
theorem okB_t {c : Int} (h : (97 ≤ c ∧ c ≤ 122) ∨ (48 ≤ c ∧ c ≤ 57) ∨ c = 45) : okB c = true := by unfold okB; rcases h with h | h | h <;> simp [h]
theorem okB_f {c : Int} (h : ¬ ((97 ≤ c ∧ c ≤ 122) ∨ (48 ≤ c ∧ c ≤ 57) ∨ c = 45)) : okB c = false := by
  unfold okB
  rw [decide_eq_false (fun h1 => h (.inl h1)), decide_eq_false (fun h1 => h (.inr (.inl h1))), decide_eq_false (fun h1 => h (.inr (.inr h1)))]; rfl
theorem name_l (s : ByteArray) (hs : s.size ≤ 32) : ∀ (n i k : Nat), i + n = s.size → n + 1 ≤ k → change_Name.l0 k s (s.size : Int) (i : Int) = some (okFrom s n i)
  | 0, i, 0, h, hk => by omega
  | 0, i, k + 1, h, hk => by
    simp only [change_Name.l0]
    rw [if_neg (by omega)]
    rfl
  | n + 1, i, 0, h, hk => by omega
  | n + 1, i, k + 1, h, hk => by
    have go := name_l s hs n (i + 1) k (by omega) (by omega)
    have hw : wrap64 ((i : Int) + 1) = ((i + 1 : Nat) : Int) := by unfold wrap64; omega
    simp only [change_Name.l0]
    rw [if_pos (by omega), if_pos (by omega), if_pos (by omega), hw, go]
    rw [okFrom_succ]
    by_cases h1 : bt s (i : Int) < 97
    · rw [if_pos h1]
      by_cases h2 : bt s (i : Int) < 48
      · rw [if_pos h2]
        by_cases h3 : bt s (i : Int) = 45
        · rw [if_pos h3, okB_t (by omega), Bool.true_and]
        · rw [if_neg h3, okB_f (by omega), Bool.false_and]
      · rw [if_neg h2]
        by_cases h3 : bt s (i : Int) > 57
        · rw [if_pos h3, if_neg (by omega), okB_f (by omega), Bool.false_and]
        · rw [if_neg h3, okB_t (by omega), Bool.true_and]
    · rw [if_neg h1]
      by_cases h2 : bt s (i : Int) > 122
      · rw [if_pos h2, if_neg (by omega), if_pos (by omega), if_neg (by omega), okB_f (by omega), Bool.false_and]
      · rw [if_neg h2, okB_t (by omega), Bool.true_and]
theorem name_f (s : ByteArray) (k : Nat) (hk : 35 ≤ k) : change_Name.f k s = some (nameP s) := by
  obtain ⟨k, rfl⟩ : ∃ j, k = j + 1 := ⟨k - 1, by omega⟩
  unfold change_Name.f nameP
  simp only [change_Name.j0]
  by_cases h1 : s.size = 0
  · rw [if_pos (by omega), if_pos trivial, show decide (0 < s.size ∧ s.size ≤ 32) = false from decide_eq_false (by omega)]; rfl
  · rw [if_neg (by omega)]
    by_cases h2 : 32 < s.size
    · rw [if_pos (by omega), if_pos trivial, show decide (0 < s.size ∧ s.size ≤ 32) = false from decide_eq_false (by omega)]; rfl
    · rw [if_neg (by omega), if_pos (by omega), show decide (0 < s.size ∧ s.size ≤ 32) = true from decide_eq_true (by omega)]
      by_cases h3 : bt s 0 < 97
      · rw [if_pos h3, if_pos trivial, show decide (97 ≤ bt s 0 ∧ bt s 0 ≤ 122) = false from decide_eq_false (by omega)]; rfl
      · rw [if_neg h3]
        by_cases h4 : bt s 0 > 122
        · rw [show decide (bt s 0 > 122) = true from decide_eq_true h4, if_pos rfl, show decide (97 ≤ bt s 0 ∧ bt s 0 ≤ 122) = false from decide_eq_false (by omega)]; rfl
        · rw [show decide (bt s 0 > 122) = false from decide_eq_false h4, if_neg (by simp), show decide (97 ≤ bt s 0 ∧ bt s 0 ≤ 122) = true from decide_eq_true (by omega)]
          have h := name_l s (by omega) s.size 0 k (by omega) (by omega)
          rw [show ((0 : Nat) : Int) = 0 from rfl] at h
          rw [h]; rfl
/-- Why a node's attributes from i on are not right. -/
def attrsFrom (l : List S99) : Nat → Nat → Int
  | 0, _ => 0
  | n + 1, i => if nameP (l.getD i z99).f0 = true then (if (l.getD i z99).f1.size > 256 then 3 else if 0 < i ∧ ¬ Op.bytesLess (l.getD (i - 1) z99).f0.toList (l.getD i z99).f0.toList = true then 2 else attrsFrom l n (i + 1)) else 8
/-- Why a node's own fields are not right. -/
def nodeP (x : S27) : Int := if nameP x.f1 = true then (if x.f2.size > 256 then 3 else if x.f3.length > 4096 then 3 else attrsFrom x.f3 x.f3.length 0) else 8
theorem rd99 (l : List S99) (i : Nat) : rd_T99 l (i : Int) = l.getD i z99 := by unfold rd_T99; rw [Int.toNat_natCast]
end Go.Proofs.Ytnkbgimihikhoaa.PVt
namespace Go.Proofs.Ytnkbgimihikhoaa.PVt
open Go.RowKit Go.Proofs.YtnkbgimihikhoaaW.PrintWords Go.Proofs.YtnkbgimihikhoaaW.PrintLast Go.Proofs.YtnkbgimihikhoaaW.PrintMore
set_option linter.unusedVariables false
set_option linter.unusedSimpArgs false
theorem drawn_below {w w' : World} (h : Drawn0 w w') : Below w.heap.size w w' := by
  obtain ⟨n, rfl⟩ := h
  exact pw_below_drewN (Below.refl _ _) n
theorem name_calls (w : World) (s : ByteArray) : Calls Try.prog 67 #[.string s] w fun e w' => e = .returned (.bool (nameP s)) ∧ Below w.heap.size w w' :=
  (change_Name.calls 35 s (nameP s) w (name_f s 35 (Nat.le_refl _))).mono fun e w' ⟨h1, h2⟩ => ⟨h1, drawn_below h2⟩
theorem next_kid {k n : Nat} (h : k < n) (hn : n ≤ 4096) : wrap64 ((k : Int) + 1) = ((k + 1 : Nat) : Int) := by unfold wrap64; omega
theorem dec_kid {i q : Nat} (h : i < q) (hw : wrap64 ((i : Int) + 1) = ((i + 1 : Nat) : Int)) : q - (intOf (Value.int .i64 (wrap64 ((i : Int) + 1)))).toNat < q - (intOf (Value.int .i64 (i : Int))).toNat := by
  rw [hw]
  show q - (((i + 1 : Nat) : Int)).toNat < q - (i : Int).toNat
  omega
theorem wrap_pred {k n : Nat} (h0 : 0 < k) (h1 : k < n) (h2 : ¬ 4096 < n) : IntKind.i64.wrap ((k : Int) - 1) = ((k - 1 : Nat) : Int) := by rw [IntWalk.i64_in _ (by omega)]; omega
theorem ret_eq {v : Value} {r : Int} (h : v = .int .i64 r) : Ending.returned v = .returned (.int .i64 r) := by rw [h]
set_option maxHeartbeats 8000000 in
set_option maxRecDepth 100000 in
theorem node_calls (w : World) (x : S27) (A : Option Addr) (c : Nat) (v5 : Value) (hA : Kd.C k99 w A x.f3.length x.f3) :
    Calls Try.prog 44 #[.agg #[.int .i64 x.f0.f0, .int .i64 x.f0.f1, .string x.f1, .string x.f2, .slice A x.f3.length c, v5]] w fun e w' => e = .returned (.int .i64 (nodeP x)) ∧ Below w.heap.size w w' := by
  have HA := Aside0.mk hA
  have HN := Aside0.mk (name_calls (w.alloc (.cells #[.int .i64 x.f0.f0, .int .i64 x.f0.f1, .string x.f1, .string x.f2, .slice A x.f3.length c, v5] 27)) x.f1)
  clear hA
  by_cases h1 : nameP x.f1 = true
  · have HP : Aside0 (nodeP x = if x.f2.size > 256 then 3 else if x.f3.length > 4096 then 3 else attrsFrom x.f3 x.f3.length 0) := ⟨by unfold nodeP; rw [if_pos h1]⟩
    rw [h1] at HN
    clear h1
    go_enter Try.func44, Try.ntmps44
    go_wp2_with (fail)
    refine HN.out.mono ?_
    rintro e w1 ⟨rfl, hb1⟩
    have HB : Aside0 (Below w.heap.size w w1) := ⟨(below_alloc (Below.refl _ _) _).trans (hb1.mono (by rw [Mem.alloc_size]; omega))⟩
    have hx1 : Aside0 (w1.heap[w.heap.size]? = some (.cells #[.int .i64 x.f0.f0, .int .i64 x.f0.f1, .string x.f1, .string x.f2, .slice A x.f3.length c, v5] 27 (0, 0))) := ⟨(hb1.block _ (by rw [Mem.alloc_size]; omega)).trans (Mem.alloc_new _ _)⟩
    have b3 := Mem.cell_of hx1.out 3
    have b4 := Mem.cell_of hx1.out 4
    clear hb1 HN
    by_cases h2 : 256 < x.f2.size
    · rw [if_pos h2] at HP
      have e2 : ((256 : Int) < (x.f2.size : Int)) = True := eq_true (by omega)
      have e3 : (256 < x.f2.size) = True := eq_true h2
      clear h2
      go_wp2
      go_ret
      exact ⟨ret_eq (by rw [HP.out]; rfl), HB.out⟩
    · rw [if_neg h2] at HP
      have e2 : ((256 : Int) < (x.f2.size : Int)) = False := eq_false (by omega)
      have e3 : (256 < x.f2.size) = False := eq_false h2
      clear h2
      by_cases h3 : 4096 < x.f3.length
      · rw [if_pos h3] at HP
        have e4 : ((4096 : Int) < (x.f3.length : Int)) = True := eq_true (by omega)
        have e5 : (4096 < x.f3.length) = True := eq_true h3
        clear h3
        go_wp2
        go_ret
        exact ⟨ret_eq (by rw [HP.out]; rfl), HB.out⟩
      · rw [if_neg h3] at HP
        have e4 : ((4096 : Int) < (x.f3.length : Int)) = False := eq_false (by omega)
        have e5 : (4096 < x.f3.length) = False := eq_false h3
        have hlm := Aside0.mk h3
        clear h3
        go_wp2
        go_loopw [22] (fun i wr => ∃ k : Nat, i = .int .i64 (k : Int) ∧ Aside0 (k ≤ x.f3.length) ∧ Aside0 (attrsFrom x.f3 (x.f3.length - k) k = nodeP x) ∧ Aside0 (Below w1.heap.size w1 wr)) (fun i _ => x.f3.length - (intOf i).toNat)
        case atStart => exact ⟨0, rfl, ⟨Nat.zero_le _⟩, ⟨by rw [HP.out]; rfl⟩, ⟨Below.refl _ _⟩⟩
        case round =>
          obtain ⟨k, rfl, HK, HAT, HBW⟩ := hrel
          have HX2 := Aside0.mk ((HBW.out.block _ (blk_lt hx1.out)).trans hx1.out)
          by_cases hlt : k < x.f3.length
          · have HW := Aside0.mk (next_kid hlt (Nat.le_of_not_lt hlm.out))
            obtain ⟨n, hn⟩ : ∃ n, x.f3.length - k = n + 1 := ⟨x.f3.length - k - 1, by omega⟩
            have HN : Aside0 (x.f3.length - (k + 1) = n) := ⟨by omega⟩
            rw [hn] at HAT
            clear hn
            have HC := Aside0.mk (Kd.C_below HA.out (HB.out.trans (HBW.out.mono HB.out.size)))
            obtain ⟨ad, hA', x0, x1⟩ := at_T99 HC.out (k : Int) (Int.natCast_nonneg _) (Int.ofNat_lt.2 hlt)
            rw [Int.toNat_natCast, rd99] at x0 x1
            obtain ⟨y, hy⟩ : ∃ y, x.f3.getD k z99 = y := ⟨_, rfl⟩
            have HY := Aside0.mk hy
            rw [hy] at x0 x1
            obtain ⟨p, hp⟩ : ∃ p, ad.add (k * 2) = p := ⟨_, rfl⟩
            have HPA := Aside0.mk hp
            rw [hp] at x0 x1
            subst hA'
            have HNM := Aside0.mk (name_calls (wr.alloc (.cells #[.string y.f0, .string y.f1] 99)) y.f0)
            have e6 : ((k : Int) < (x.f3.length : Int)) = True := eq_true (Int.ofNat_lt.2 hlt)
            have e7 : (k < x.f3.length) = True := eq_true hlt
            have HLT := Aside0.mk hlt
            have hkn : (k : Int).toNat = k := Int.toNat_natCast k
            have hkp : (0 : Int) ≤ (k : Int) := Int.natCast_nonneg k
            have b3' := Mem.cell_of HX2.out 3
            clear hy hlt b3
            by_cases h4 : nameP y.f0 = true
            · rw [h4] at HNM
              have HA1 : Aside0 (nodeP x = if y.f1.size > 256 then 3 else if 0 < k ∧ ¬ Op.bytesLess (x.f3.getD (k - 1) z99).f0.toList y.f0.toList = true then 2 else attrsFrom x.f3 n (k + 1)) := ⟨by rw [← HAT.out]; show (if nameP (x.f3.getD k z99).f0 = true then _ else _) = _; rw [HY.out, if_pos h4]⟩
              clear h4
              go_wp2_with (fail)
              refine HNM.out.mono ?_
              rintro e w3 ⟨rfl, hb3⟩
              have HB3 : Aside0 (Below wr.heap.size wr w3) := ⟨(below_alloc (Below.refl _ _) _).trans (hb3.mono (by rw [Mem.alloc_size]; omega))⟩
              have HYB : Aside0 (w3.heap[wr.heap.size]? = some (.cells #[.string y.f0, .string y.f1] 99 (0, 0))) := ⟨(hb3.block _ (by rw [Mem.alloc_size]; omega)).trans (Mem.alloc_new _ _)⟩
              have HX3 : Aside0 (w3.heap[w.heap.size]? = some (.cells #[.int .i64 x.f0.f0, .int .i64 x.f0.f1, .string x.f1, .string x.f2, .slice (some ad) x.f3.length c, v5] 27 (0, 0))) := ⟨(HB3.out.block _ (blk_lt HX2.out)).trans HX2.out⟩
              have y0 : w3.cell? ⟨wr.heap.size, 0, none⟩ = some (.string y.f0) := Mem.cell_of HYB.out 0
              have y1 : w3.cell? ⟨wr.heap.size, 1, none⟩ = some (.string y.f1) := Mem.cell_of HYB.out 1
              have b3 : w3.cell? ⟨w.heap.size, 4, none⟩ = some (.slice (some ad) x.f3.length c) := Mem.cell_of HX3.out 4
              clear hb3 HNM x0 x1 b3' b4
              by_cases h5 : 256 < y.f1.size
              · rw [if_pos h5] at HA1
                have e8 : ((256 : Int) < (y.f1.size : Int)) = True := eq_true (by omega)
                have e9 : (256 < y.f1.size) = True := eq_true h5
                clear h5
                go_wp2
                go_ret
                exact ⟨ret_eq (by rw [HA1.out]; rfl), HB.out.trans ((HBW.out.trans (HB3.out.mono HBW.out.size)).mono HB.out.size)⟩
              · rw [if_neg h5] at HA1
                have e8 : ((256 : Int) < (y.f1.size : Int)) = False := eq_false (by omega)
                have e9 : (256 < y.f1.size) = False := eq_false h5
                clear h5
                by_cases h6 : 0 < k
                · have H6a := Aside0.mk h6
                  have e10 : ((0 : Int) < (k : Int)) = True := eq_true (by omega)
                  have e11 : (0 < k) = True := eq_true h6
                  have hw_ : wrap64 ((k : Int) - 1) = ((k - 1 : Nat) : Int) := by have h_ := HLT.out; have h2_ := hlm.out; clear e4 e5 e6 e7 e8 e9 e10 e11; unfold wrap64; omega
                  have hw3 := wrap_pred H6a.out HLT.out hlm.out
                  have HC3 := Aside0.mk (Kd.C_below HC.out HB3.out)
                  obtain ⟨ad2, hA2, z0, z1⟩ := at_T99 HC3.out ((k - 1 : Nat) : Int) (Int.natCast_nonneg _) (Int.ofNat_lt.2 (by have h_ := HLT.out; omega))
                  obtain rfl : ad = ad2 := by injection hA2
                  rw [Int.toNat_natCast, rd99] at z0 z1
                  obtain ⟨q, hq⟩ : ∃ q, ad.add ((k - 1) * 2) = q := ⟨_, rfl⟩
                  obtain ⟨u, hu⟩ : ∃ u, x.f3.getD (k - 1) z99 = u := ⟨_, rfl⟩
                  have HU := Aside0.mk hu
                  rw [hq, hu] at z0
                  rw [hu] at HA1
                  have HQ := Aside0.mk hq
                  have hk1 : ((k - 1 : Nat) : Int).toNat = k - 1 := Int.toNat_natCast _
                  have hk2 : (0 : Int) ≤ ((k - 1 : Nat) : Int) := Int.natCast_nonneg _
                  have hk3 : ((k - 1 : Nat) : Int) < (x.f3.length : Int) := Int.ofNat_lt.2 (by have h_ := HLT.out; omega)
                  clear hA2 z1
                  have H6 := Aside0.mk h6
                  clear h6
                  by_cases h7 : Op.bytesLess u.f0.toList y.f0.toList = true
                  · rw [if_neg (fun h => h.2 h7)] at HA1
                    go_wp2_with (fail)
                    go_quiet ((fail))
                    go_wp2_with (fail)
                    go_roundw
                    case rel => exact ⟨k + 1, congrArg (Value.int .i64) HW.out, ⟨HLT.out⟩, ⟨by rw [HN.out]; exact HA1.out.symm⟩, ⟨HBW.out.trans ((HB3.out.trans (pw_below_drewN (Below.refl _ _) _)).mono HBW.out.size)⟩⟩
                    case measure => exact dec_kid HLT.out HW.out
                  · rw [if_pos ⟨H6.out, h7⟩] at HA1
                    have h8 : Op.bytesLess u.f0.toList y.f0.toList = false := Bool.eq_false_iff.2 h7
                    clear h7
                    go_wp2_with (fail)
                    go_quiet ((fail))
                    go_wp2
                    go_ret
                    exact ⟨ret_eq (by rw [HA1.out]; rfl), HB.out.trans ((HBW.out.trans ((HB3.out.trans (pw_below_drewN (Below.refl _ _) _)).mono HBW.out.size)).mono HB.out.size)⟩
                · have e10 : ((0 : Int) < (k : Int)) = False := eq_false (by omega)
                  have e11 : (0 < k) = False := eq_false h6
                  rw [if_neg (fun h => h6 h.1)] at HA1
                  clear h6
                  go_wp2_with (fail)
                  go_quiet ((fail))
                  go_wp2_with (fail)
                  go_roundw
                  case rel => exact ⟨k + 1, congrArg (Value.int .i64) HW.out, ⟨HLT.out⟩, ⟨by rw [HN.out]; exact HA1.out.symm⟩, ⟨HBW.out.trans ((HB3.out.trans (pw_below_drewN (Below.refl _ _) _)).mono HBW.out.size)⟩⟩
                  case measure => exact dec_kid HLT.out HW.out
            · have HA1 : Aside0 (nodeP x = 8) := ⟨by rw [← HAT.out]; show (if nameP (x.f3.getD k z99).f0 = true then _ else _) = _; rw [HY.out, if_neg h4]⟩
              rw [Bool.eq_false_iff.2 h4] at HNM
              clear h4
              go_wp2_with (fail)
              refine HNM.out.mono ?_
              rintro e w3 ⟨rfl, hb3⟩
              have HB3 : Aside0 (Below wr.heap.size wr w3) := ⟨(below_alloc (Below.refl _ _) _).trans (hb3.mono (by rw [Mem.alloc_size]; omega))⟩
              clear hb3 HNM
              go_wp2
              go_ret
              exact ⟨ret_eq (by rw [HA1.out]; rfl), HB.out.trans ((HBW.out.trans (HB3.out.mono HBW.out.size)).mono HB.out.size)⟩
          · have e6 : ((k : Int) < (x.f3.length : Int)) = False := eq_false (by omega)
            have e7 : (k < x.f3.length) = False := eq_false hlt
            have hk : x.f3.length - k = 0 := by omega
            rw [hk] at HAT
            clear hk hlt
            go_wp2
            go_ret
            exact ⟨ret_eq (by rw [← HAT.out]; rfl), HB.out.trans (HBW.out.mono HB.out.size)⟩
  · have HP : Aside0 (nodeP x = 8) := ⟨by unfold nodeP; rw [if_neg h1]⟩
    rw [Bool.eq_false_iff.2 h1] at HN
    clear h1
    go_enter Try.func44, Try.ntmps44
    go_wp2_with (fail)
    refine HN.out.mono ?_
    rintro e w1 ⟨rfl, hb1⟩
    have HB : Aside0 (Below w.heap.size w w1) := ⟨(below_alloc (Below.refl _ _) _).trans (hb1.mono (by rw [Mem.alloc_size]; omega))⟩
    clear hb1 HN
    go_wp2
    go_ret
    exact ⟨ret_eq (by rw [HP.out]; rfl), HB.out⟩
end Go.Proofs.Ytnkbgimihikhoaa.PVt
namespace Go.Proofs.Ytnkbgimihikhoaa.PVt
open Go.RowKit Go.Proofs.YtnkbgimihikhoaaW.PrintWords Go.Proofs.YtnkbgimihikhoaaW.PrintLast Go.Proofs.YtnkbgimihikhoaaW.PrintMore
set_option linter.unusedVariables false
set_option linter.unusedSimpArgs false
def keyV (k : S23) : Value := .agg #[.int .i64 k.f0, .int .i64 k.f1]
theorem check_int (em : Bool) (n : Nat) (w : World) (a : Int) : (Instr.checkKey em (n + 1) 3 (.int .i64 a)).run Try.prog w = .ok () w := by
  unfold Instr.checkKey
  have hu := Try.underlying3
  go_simp
theorem check_key (em : Bool) (w : World) (k : S23) : (Instr.checkKey em 10000 23 (keyV k)).run Try.prog w = .ok () w := by
  unfold keyV
  rw [show (10000 : Nat) = 9999 + 1 from rfl]
  unfold Instr.checkKey
  have hu := Try.underlying23
  have h1 := fun w => check_int em 9998 w k.f0
  have h2 := fun w => check_int em 9998 w k.f1
  go_simp
theorem eqK23 (d : Nat) (w : World) (x0 y0 x1 y1 : Int) :
    (Op.equalIn (d + 2) 23 (.agg #[.int .i64 x0, .int .i64 x1]) (.agg #[.int .i64 y0, .int .i64 y1])).run Try.prog w = .ok (x0 == y0 && (x1 == y1)) w := by
  refine eqA_of Try.underlying23 (by kernel_rfl) ?_
  refine eqf_cons (by rfl) (by go_simp; rfl) (by go_simp; rfl) (by go_simp) ?_
  exact eqf_last (by rfl) (by go_simp; rfl) (by go_simp; rfl) (by go_simp)
def sameK (x y : S23) : Bool := x.f0 == y.f0 && (x.f1 == y.f1)
theorem sameK_iff {x y : S23} : sameK x y = true ↔ x = y := by
  cases x; cases y
  simp [sameK]
theorem equal_key (w : World) (x y : S23) : (Op.equal 23 (keyV x) (keyV y)).run Try.prog w = .ok (sameK x y) w :=
  eqK23 (Op.maxDepth - 2) w x.f0 y.f0 x.f1 y.f1
/-- The entries of a map: keys and how often, in the order in which they came. -/
def ents : Nat → List (S23 × Int) → List MapEntry
  | _, [] => []
  | n, (k, v) :: t => { key := keyV k, val := .int .i64 v, born := n } :: ents (n + 1) t
def findP : List (S23 × Int) → S23 → Nat → Option (Nat × Value)
  | [], _, _ => none
  | (k', v) :: t, k, i => if sameK k k' = true then some (i, .int .i64 v) else findP t k (i + 1)
theorem ask_run (w : World) (k : S23) : ∀ (l : List (S23 × Int)) (n i : Nat), (Instr.findAsking 23 (keyV k) (ents n l) i).run Try.prog w = .ok (findP l k i) w
  | [], n, i => by simp [ents, Instr.findAsking, findP, Sem.run_pure]
  | (k', v) :: t, n, i => by
    unfold ents Instr.findAsking findP
    rw [Sem.run_bind, equal_key, Result.andThen_ok]
    cases sameK k k' with
    | true => simp [Sem.run_pure]
    | false => simpa using ask_run w k t (n + 1) (i + 1)
theorem find_run (w : World) (k : S23) (l : List (S23 × Int)) : (Instr.findKey 23 (keyV k) (ents 0 l)).run Try.prog w = .ok (findP l k 0) w := by
  unfold Instr.findKey
  have hu := Try.underlying23
  cases l with
  | nil => simp [ents, Instr.findNow, findP, go_sem, hu]
  | cons a t =>
    obtain ⟨k', v⟩ := a
    have h := ask_run w k ((k', v) :: t) 0 0
    unfold ents at h ⊢
    simp only [Sem.run_bind]
    rw [show (underlying 23).run Try.prog w = .ok (TypeDesc.struct #[{ name := "Count", type := 3, offset := 0, embedded := false, tag := "", pkgPath := "", byteOffset := 0 }, { name := "Replica", type := 3, offset := 1, embedded := false, tag := "", pkgPath := "", byteOffset := 8 }]) w from by simp [go_sem, hu], Result.andThen_ok]
    simp only [Instr.findNow, Instr.sameNow, keyV]
    exact h
/-- A map of one's own: block b, with such entries. -/
def MapS (W : World) (b : Nat) (l : List (S23 × Int)) : Prop := W.heap[b]? = some (.map (ents 0 l).toArray l.length)
def valP (l : List (S23 × Int)) (k : S23) : Value := match findP l k 0 with | some (_, v) => v | none => .int .i64 0
theorem und_run (W : World) : (underlying 70).run Try.prog W = .ok (TypeDesc.map 23 3) W := by
  have hu := Try.underlying70
  simp [go_sem, hu]
theorem zero_run (W : World) : (zeroValue 3).run Try.prog W = .ok (.int .i64 0) W := by
  have hu := Try.underlying3
  go_simp
theorem get_run {W : World} {b c : Nat} {es : Array MapEntry} (h : W.heap[b]? = some (.map es c)) : (getObj b).run Try.prog W = .ok (.map es c) W := by simp [getObj, Sem.run, h]
theorem set_run {W : World} {b c : Nat} {es : Array MapEntry} {o' : Obj} (h : W.heap[b]? = some (.map es c)) : (setObj b o').run Try.prog W = .ok () (W.putObj b o') := by
  simp [setObj, Sem.run, h, World.putObj]
theorem look_run {W : World} {b : Nat} {l : List (S23 × Int)} (h : MapS W b l) (k : S23) : (Instr.lookup 70 (.map (some b)) (keyV k) false).run Try.prog W = .ok (valP l k) W := by
  have e2 := get_run h
  have hf := find_run W k l
  have hc := fun em => check_key em W k
  unfold Instr.lookup valP
  simp only [Sem.run_bind, und_run, Result.andThen_ok, e2, Sem.run_pure, hc, hf]
  cases findP l k 0 with
  | none => simp [Sem.run_bind, zero_run, Sem.run_pure, Result.andThen_ok]
  | some r => simp [Sem.run_bind, Sem.run_pure, Result.andThen_ok]
theorem ents_append (l m : List (S23 × Int)) : ∀ n, ents n (l ++ m) = ents n l ++ ents (n + l.length) m := by
  induction l with
  | nil => intro n; simp [ents]
  | cons a t ih => intro n; obtain ⟨k, v⟩ := a; simp only [List.cons_append, ents, ih (n + 1), List.length_cons]; rw [show n + 1 + t.length = n + (t.length + 1) from by omega]
theorem entry_run {W : World} {b : Nat} {l : List (S23 × Int)} (h : MapS W b l) (k : S23) (hn : findP l k 0 = none) :
    (Instr.mapEntry 70 (.map (some b)) (keyV k)).run Try.prog W = .ok (.tuple #[.int .i64 0, .int .i64 (l.length : Int)]) (W.putObj b (.map (ents 0 (l ++ [(k, 0)])).toArray (l ++ [(k, 0)]).length)) := by
  have e2 := get_run h
  have hf := find_run W k l
  rw [hn] at hf
  have hc := fun em => check_key em W k
  have hs := fun o' => set_run (o' := o') h
  unfold Instr.mapEntry
  simp only [Sem.run_bind, und_run, Result.andThen_ok, e2, Sem.run_pure, hc, hf, zero_run, hs]
  rw [ents_append]
  simp [ents, goInt]
theorem ents_born : ∀ (l : List (S23 × Int)) (n : Nat), ∀ e ∈ ents n l, e.born < n + l.length
  | [], n, e, he => by cases he
  | (k, v) :: t, n, e, he => by
    unfold ents at he
    rcases List.mem_cons.1 he with rfl | he
    · show n < n + (t.length + 1); omega
    · have := ents_born t (n + 1) e he; simp only [List.length_cons]; omega
theorem ents_length : ∀ (l : List (S23 × Int)) (n : Nat), (ents n l).length = l.length
  | [], n => rfl
  | (k, v) :: t, n => by simp [ents, ents_length t (n + 1)]
theorem modify_last_ {α : Type} {f : α → α} {a : α} : ∀ (l : List α), (l ++ [a]).modify l.length f = l ++ [f a]
  | [] => rfl
  | b :: l => by simp only [List.cons_append, List.length_cons, List.modify_succ_cons, modify_last_ l]
theorem store_run {W : World} {b : Nat} {l : List (S23 × Int)} (k : S23) (v : Int) (h : MapS W b (l ++ [(k, 0)])) :
    (Instr.entryStore 70 (.map (some b)) (.int .i64 (l.length : Int)) (.int .i64 v)).run Try.prog W = .ok () (W.putObj b (.map (ents 0 (l ++ [(k, v)])).toArray (l ++ [(k, v)]).length)) := by
  have e2 := get_run h
  have hs := fun o' => set_run (o' := o') h
  have hlen : (ents 0 l).length = l.length := ents_length l 0
  have hb : ents 0 (l ++ [(k, 0)]) = ents 0 l ++ [{ key := keyV k, val := .int .i64 0, born := l.length }] := by rw [ents_append, Nat.zero_add]; rfl
  have hb2 : ents 0 (l ++ [(k, v)]) = ents 0 l ++ [{ key := keyV k, val := .int .i64 v, born := l.length }] := by rw [ents_append, Nat.zero_add]; rfl
  have hi : (ents 0 (l ++ [(k, 0)])).toArray.findIdx? (fun e => (e.born : Int) == (l.length : Int)) = some (ents 0 l).length := by
    rw [List.findIdx?_toArray, hb, List.findIdx?_append]
    have h1 : (ents 0 l).findIdx? (fun e => (e.born : Int) == (l.length : Int)) = none := by
      rw [List.findIdx?_eq_none_iff]
      intro e he
      have := ents_born l 0 e he
      simp only [beq_eq_false_iff_ne, ne_eq]
      omega
    rw [h1]
    simp
  have hm : (ents 0 (l ++ [(k, 0)])).toArray.modify (ents 0 l).length (fun e => { e with val := .int .i64 v }) = (ents 0 (l ++ [(k, v)])).toArray := by
    rw [hb, hb2, List.modify_toArray, modify_last_ (ents 0 l)]
  unfold Instr.entryStore
  have ha : (asInt (.int .i64 (l.length : Int))).run Try.prog W = .ok (l.length : Int) W := by simp [asInt, asIntOf, Sem.run_bind, Sem.run_pure, Result.andThen]
  simp only [Sem.run_bind, Result.andThen_ok, e2, ha, hi, hs]
  rw [hm, List.length_append, List.length_append]
  rfl
end Go.Proofs.Ytnkbgimihikhoaa.PVt
namespace Go.Proofs.Ytnkbgimihikhoaa.PVt
open Go.RowKit Go.Shelf Go.Proofs.YtnkbgimihikhoaaW.PrintWords Go.Proofs.YtnkbgimihikhoaaW.PrintLast Go.Proofs.YtnkbgimihikhoaaW.PrintMore
attribute [local go_sem] Oper.semAt_some
set_option linter.unusedVariables false
set_option linter.unusedSimpArgs false
def rightK (k : S23) : Bool := decide (1 ≤ k.f0 ∧ k.f0 ≤ 1099511627776 ∧ 0 ≤ k.f1 ∧ k.f1 < 64)
def nodeK (k : S23) : Bool := rightK k || ((k.f0 == 0 && (k.f1 == 0)) || (k.f0 == 0 && (k.f1 == 1)))
theorem right_f (k : S23) : ident_Right.f k.f0 k.f1 = some (rightK k) := by
  unfold ident_Right.f ident_replica.f rightK
  by_cases h1 : 1 ≤ k.f0
  · rw [if_pos h1]
    by_cases h2 : k.f0 ≤ 1099511627776
    · rw [if_pos h2]
      by_cases h3 : 0 ≤ k.f1
      · simp [h1, h2, h3]
      · simp [h1, h2, h3]
    · rw [if_neg h2, decide_eq_false (fun h => h2 h.2.1)]
  · rw [if_neg h1, decide_eq_false (fun h => h1 h.1)]
theorem nodeK_f (k : S23) : ident_Node.f k.f0 k.f1 = some (nodeK k) := by
  unfold ident_Node.f nodeK
  rw [right_f, Option.bind_some]
  cases rightK k with
  | true => rfl
  | false =>
    by_cases h : (k.f0 == 0 && (k.f1 == 0)) = true
    · rw [if_neg (by simp), if_pos h, h]; rfl
    · rw [if_neg (by simp), if_neg h, Bool.eq_false_iff.2 h]; rfl
theorem right_calls (w : World) (k : S23) : Calls Try.prog 43 #[.agg #[.int .i64 k.f0, .int .i64 k.f1]] w fun e w' => e = .returned (.bool (rightK k)) ∧ Below w.heap.size w w' := ident_Right.calls _ _ _ w (right_f k)
theorem nodeK_calls (w : World) (k : S23) : Calls Try.prog 42 #[.agg #[.int .i64 k.f0, .int .i64 k.f1]] w fun e w' => e = .returned (.bool (nodeK k)) ∧ Below w.heap.size w w' := ident_Node.calls _ _ _ w (nodeK_f k)
/-- May a node so deep not have this key? -/
def badK (p : Nat × S27) : Bool := (p.1 == 0 && !nodeK p.2.f0) || (decide (0 < p.1) && !rightK p.2.f0)
/-- The first fault among nodes, such keys having come. -/
def goC : List S23 → List (Nat × S27) → Int
  | _, [] => 0
  | ks, p :: l => if badK p = true then 2 else if (ks.any (sameK p.2.f0)) = true then 5 else if nodeP p.2 = 0 then goC (ks ++ [p.2.f0]) l else nodeP p.2
def checkP (x : S27) : Int := if 8192 < szT x then 3 else goC [] (flatD 0 x)
theorem goC_zero : ∀ (a b : List (Nat × S27)) (ks : List S23), goC ks a = 0 → goC ks (a ++ b) = goC (ks ++ keysP a) b
  | [], b, ks, _ => by simp [keysP]
  | p :: a, b, ks, h => by
    unfold goC at h
    by_cases h1 : badK p = true
    · rw [if_pos h1] at h; cases h
    · rw [if_neg h1] at h
      by_cases h2 : (ks.any (sameK p.2.f0)) = true
      · rw [if_pos h2] at h; cases h
      · rw [if_neg h2] at h
        by_cases h3 : nodeP p.2 = 0
        · rw [if_pos h3] at h
          rw [List.cons_append, goC, if_neg h1, if_neg h2, if_pos h3, goC_zero a b _ h]
          simp [keysP]
        · rw [if_neg h3] at h; exact absurd h h3
theorem goC_stop : ∀ (a b : List (Nat × S27)) (ks : List S23), goC ks a ≠ 0 → goC ks (a ++ b) = goC ks a
  | [], b, ks, h => absurd rfl h
  | p :: a, b, ks, h => by
    rw [List.cons_append, goC, goC]
    rw [goC] at h
    by_cases h1 : badK p = true
    · rw [if_pos h1, if_pos h1]
    · rw [if_neg h1] at h ⊢
      rw [if_neg h1]
      by_cases h2 : (ks.any (sameK p.2.f0)) = true
      · rw [if_pos h2, if_pos h2]
      · rw [if_neg h2] at h ⊢
        rw [if_neg h2]
        by_cases h3 : nodeP p.2 = 0
        · rw [if_pos h3] at h ⊢
          rw [if_pos h3]
          exact goC_stop a b _ h
        · rw [if_neg h3, if_neg h3]
theorem goC_one (a : List (Nat × S27)) (p : Nat × S27) (h : goC [] a = 0) : goC [] (a ++ [p]) = if badK p = true then 2 else if ((keysP a).any (sameK p.2.f0)) = true then 5 else nodeP p.2 := by
  rw [goC_zero a [p] [] h, List.nil_append, goC]
  split
  · rfl
  · split
    · rfl
    · split
      · rename_i h3; rw [h3]; rfl
      · rfl
theorem goC_prefix {a l : List (Nat × S27)} (h : a <+: l) (hn : goC [] a ≠ 0) : goC [] l = goC [] a := by
  obtain ⟨b, rfl⟩ := h
  exact goC_stop a b [] hn
/-- Such keys have come, once each. -/
def seenL (l : List (Nat × S27)) : List (S23 × Int) := (keysP l).map fun k => (k, 1)
theorem seenL_snoc (l : List (Nat × S27)) (p : Nat × S27) : seenL (l ++ [p]) = seenL l ++ [(p.2.f0, 1)] := by simp [seenL, keysP]
theorem findP_none : ∀ (ks : List S23) (k : S23) (i : Nat), (ks.any (sameK k)) = false → findP (ks.map fun k => (k, (1 : Int))) k i = none
  | [], k, i, _ => rfl
  | a :: t, k, i, h => by
    rw [List.any_cons, Bool.or_eq_false_iff] at h
    rw [List.map_cons, findP, if_neg (by rw [h.1]; simp), findP_none t k (i + 1) h.2]
theorem findP_some : ∀ (ks : List S23) (k : S23) (i : Nat), (ks.any (sameK k)) = true → ∃ j, findP (ks.map fun k => (k, (1 : Int))) k i = some (j, .int .i64 1)
  | [], k, i, h => by cases h
  | a :: t, k, i, h => by
    rw [List.map_cons, findP]
    by_cases h1 : sameK k a = true
    · rw [if_pos h1]; exact ⟨i, rfl⟩
    · rw [if_neg h1]
      rw [List.any_cons, Bool.eq_false_iff.2 h1, Bool.false_or] at h
      exact findP_some t k (i + 1) h
theorem valP_one {l : List (Nat × S27)} {k : S23} (h : ((keysP l).any (sameK k)) = true) : valP (seenL l) k = .int .i64 1 := by
  obtain ⟨j, hj⟩ := findP_some (keysP l) k 0 h
  unfold valP seenL
  rw [hj]
theorem valP_zero {l : List (Nat × S27)} {k : S23} (h : ((keysP l).any (sameK k)) = false) : valP (seenL l) k = .int .i64 0 := by
  unfold valP seenL
  rw [findP_none _ _ _ h]
theorem findP_append_none : ∀ (l : List (S23 × Int)) (k : S23) (v : Int) (i : Nat), findP l k i = none → findP (l ++ [(k, v)]) k i = some (i + l.length, .int .i64 v)
  | [], k, v, i, _ => by
    rw [List.nil_append, findP, if_pos (sameK_iff.2 rfl)]; rfl
  | (a, u) :: t, k, v, i, h => by
    rw [findP] at h
    rw [List.cons_append, findP]
    by_cases h1 : sameK k a = true
    · rw [if_pos h1] at h; cases h
    · rw [if_neg h1] at h ⊢
      rw [findP_append_none t k v (i + 1) h, List.length_cons]
      congr 2; omega
theorem valP_new {l : List (S23 × Int)} {k : S23} (h : findP l k 0 = none) (v : Int) : valP (l ++ [(k, v)]) k = .int .i64 v := by
  unfold valP
  rw [findP_append_none l k v 0 h]
theorem MapS.put {W : World} {b : Nat} {l : List (S23 × Int)} (m : List (S23 × Int)) (h : MapS W b l) : MapS (W.putObj b (.map (ents 0 m).toArray m.length)) b m := by
  unfold MapS at h ⊢
  exact World.putObj_heap_same (blk_lt' h)
theorem MapS_own {β : Type} {B b : Nat} (hb : b < B) (f : β → List (S23 × Int)) : OwnFrom B (fun s W => MapS W b (f s)) := fun s X Y row hs hg hr => (hg.block b (blk_lt' hs) (fun e => by have := (hr b e.symm).1; omega)).trans hs
theorem wrap_one : IntKind.i64.wrap 1 = 1 := by decide
theorem below_others {W W' : World} (h : Below W.heap.size W W') : KeepsOthers W W' := ⟨h.size, fun k o hk _ => (h.block k (blk_lt' hk)).trans hk⟩
theorem KeepsFrom.put {B b : Nat} {W : World} {o : Obj} (hb : b < B) : KeepsFrom B W (W.putObj b o) := ⟨by simp, fun i o' hB hi ho => (World.putObj_heap_other (by omega)).trans hi⟩
theorem KeptT.put {T : Nat → Prop} {b : Nat} {U W : World} (h : KeptT T U W) (o : Obj) (hb : T b) : KeptT T U (W.putObj b o) := ⟨Nat.le_trans h.size (by simp), fun i hi hn => (World.putObj_heap_other (by rintro rfl; exact hn hb)).trans (h.block i hi hn)⟩
theorem below_put {n b : Nat} {w W : World} (h : Below n w W) (hb : n ≤ b) (o : Obj) : Below n w (W.putObj b o) := ⟨h.os, h.tape, h.output, Nat.le_trans h.size (by simp), fun i hi => (World.putObj_heap_other (by omega)).trans (h.block i hi)⟩
theorem next_small {k : Nat} (h : k ≤ 8192) : wrap64 ((k : Int) + 1) = ((k + 1 : Nat) : Int) := by unfold wrap64; omega
theorem results_ci {P : Program} {fn : Func} {p : Tmp} {ty : TypeId} {q : IntKind} (h : fn.results = #[.cell p ty]) (tmps : Array Value) (w : World) (g : Nat) (v : Int) (hp : tmps.getD p undef = .pointer (some ⟨g, 0, none⟩)) (hc : w.cell? ⟨g, 0, none⟩ = some (.int .i64 v)) (hu : P.underlying ty = some (.int q)) : (results fn tmps).run P w = .ok (.int .i64 v) w := by
  have hp' : tmps[p]?.getD undef = .pointer (some ⟨g, 0, none⟩) := by simpa using hp
  simp [results, h, hp', asAddr, loadVar, isAgg, underlying, hu, hc, load, Sem.run]
set_option maxHeartbeats 16000000 in
set_option maxRecDepth 100000 in
theorem check_calls (w : World) (x : S27) (A4 : Option Addr) (c4 : Nat) (A5 : Option Addr) (c5 : Nat) (hd : szT x ≤ 1099511627776)
    (hT : TK w w.heap.size x [.int .i64 x.f0.f0, .int .i64 x.f0.f1, .string x.f1, .string x.f2, .slice A4 x.f3.length c4, .slice A5 x.f4.length c5]) :
    Calls Try.prog 12 #[.agg #[.int .i64 x.f0.f0, .int .i64 x.f0.f1, .string x.f1, .string x.f2, .slice A4 x.f3.length c4, .slice A5 x.f4.length c5]] w fun e w' => e = .returned (.int .i64 (checkP x)) ∧ Below w.heap.size w w' := by
  have HT := Aside0.mk hT
  have HSZ := Aside0.mk (flatD_length 0 x)
  clear hT
  refine (callsIn_wide (n := 3)).1 ?_
  refine callsIn_of_wp_marks Try.func12 rfl trivial ?_ rfl
  simp only [Try.ntmps12, List.size_toArray, List.length_cons, List.length_nil, Nat.reduceAdd, Nat.reduceSub, Array.replicate_succ, Array.replicate_zero, List.push_toArray, List.append_toArray, List.nil_append, List.cons_append]
  refine wpIn_wide.2 ?_
  go_wp2_with (fail)
  refine (nodes_calls _ _ _ _ _ _ _).mono ?_
  rintro e w1 ⟨rfl, rfl⟩
  go_wp2_with (fail)
  have hBU : Below w.heap.size w ((((w.alloc (.cells #[.int .i64 x.f0.f0, .int .i64 x.f0.f1, .string x.f1, .string x.f2, .slice A4 x.f3.length c4, .slice A5 x.f4.length c5] 27)).alloc (.cells #[.int .i64 0] 29)).alloc (.cells #[.int .i64 0] 3)).alloc (.cells #[.int .i64 x.f0.f0, .int .i64 x.f0.f1, .string x.f1, .string x.f2, .slice A4 x.f3.length c4, .slice A5 x.f4.length c5] 27)) := below_alloc (below_alloc (below_alloc (below_alloc (Below.refl _ _) _) _) _) _
  have hB1 : ((((w.alloc (.cells #[.int .i64 x.f0.f0, .int .i64 x.f0.f1, .string x.f1, .string x.f2, .slice A4 x.f3.length c4, .slice A5 x.f4.length c5] 27)).alloc (.cells #[.int .i64 0] 29)).alloc (.cells #[.int .i64 0] 3)).alloc (.cells #[.int .i64 x.f0.f0, .int .i64 x.f0.f1, .string x.f1, .string x.f2, .slice A4 x.f3.length c4, .slice A5 x.f4.length c5] 27)).heap[w.heap.size]? = some (.cells #[.int .i64 x.f0.f0, .int .i64 x.f0.f1, .string x.f1, .string x.f2, .slice A4 x.f3.length c4, .slice A5 x.f4.length c5] 27 (0, 0)) := Mem.alloc_old (Mem.alloc_old (Mem.alloc_old (Mem.alloc_new _ _) _) _) _
  have hB2 : ((((w.alloc (.cells #[.int .i64 x.f0.f0, .int .i64 x.f0.f1, .string x.f1, .string x.f2, .slice A4 x.f3.length c4, .slice A5 x.f4.length c5] 27)).alloc (.cells #[.int .i64 0] 29)).alloc (.cells #[.int .i64 0] 3)).alloc (.cells #[.int .i64 x.f0.f0, .int .i64 x.f0.f1, .string x.f1, .string x.f2, .slice A4 x.f3.length c4, .slice A5 x.f4.length c5] 27)).heap[w.heap.size + 1]? = some (.cells #[.int .i64 0] 29 (0, 0)) := Mem.alloc_old (Mem.alloc_old (Mem.alloc_new_at _ _ _ (by rw [Mem.alloc_size])) _) _
  have hB3 : ((((w.alloc (.cells #[.int .i64 x.f0.f0, .int .i64 x.f0.f1, .string x.f1, .string x.f2, .slice A4 x.f3.length c4, .slice A5 x.f4.length c5] 27)).alloc (.cells #[.int .i64 0] 29)).alloc (.cells #[.int .i64 0] 3)).alloc (.cells #[.int .i64 x.f0.f0, .int .i64 x.f0.f1, .string x.f1, .string x.f2, .slice A4 x.f3.length c4, .slice A5 x.f4.length c5] 27)).heap[w.heap.size + 1 + 1]? = some (.cells #[.int .i64 0] 3 (0, 0)) := Mem.alloc_old (Mem.alloc_new_at _ _ _ (by rw [Mem.alloc_size, Mem.alloc_size])) _
  have hBX : ((((w.alloc (.cells #[.int .i64 x.f0.f0, .int .i64 x.f0.f1, .string x.f1, .string x.f2, .slice A4 x.f3.length c4, .slice A5 x.f4.length c5] 27)).alloc (.cells #[.int .i64 0] 29)).alloc (.cells #[.int .i64 0] 3)).alloc (.cells #[.int .i64 x.f0.f0, .int .i64 x.f0.f1, .string x.f1, .string x.f2, .slice A4 x.f3.length c4, .slice A5 x.f4.length c5] 27)).heap[w.heap.size + 1 + 1 + 1]? = some (.cells #[.int .i64 x.f0.f0, .int .i64 x.f0.f1, .string x.f1, .string x.f2, .slice A4 x.f3.length c4, .slice A5 x.f4.length c5] 27 (0, 0)) := Mem.alloc_new_at _ _ _ (by rw [Mem.alloc_size, Mem.alloc_size, Mem.alloc_size])
  have hUS : ((((w.alloc (.cells #[.int .i64 x.f0.f0, .int .i64 x.f0.f1, .string x.f1, .string x.f2, .slice A4 x.f3.length c4, .slice A5 x.f4.length c5] 27)).alloc (.cells #[.int .i64 0] 29)).alloc (.cells #[.int .i64 0] 3)).alloc (.cells #[.int .i64 x.f0.f0, .int .i64 x.f0.f1, .string x.f1, .string x.f2, .slice A4 x.f3.length c4, .slice A5 x.f4.length c5] 27)).heap.size = w.heap.size + 4 := by rw [Mem.alloc_size, Mem.alloc_size, Mem.alloc_size, Mem.alloc_size]
  generalize ((((w.alloc (.cells #[.int .i64 x.f0.f0, .int .i64 x.f0.f1, .string x.f1, .string x.f2, .slice A4 x.f3.length c4, .slice A5 x.f4.length c5] 27)).alloc (.cells #[.int .i64 0] 29)).alloc (.cells #[.int .i64 0] 3)).alloc (.cells #[.int .i64 x.f0.f0, .int .i64 x.f0.f1, .string x.f1, .string x.f2, .slice A4 x.f3.length c4, .slice A5 x.f4.length c5] 27)) = U at *
  refine (wpIn_wide (n := 3)).1 ?_
  refine wpIn_rangeFunc_ownH (F := Fence.wide) (n := 3) rfl (by decide) (gf := 65) (lb := #[.pointer (some ⟨w.heap.size + 1 + 1 + 1, 0, none⟩)]) rfl trivial (enters_of Try.func65 (by kernel_rfl) rfl)
    (nodes_stops (T := fun _ => False) hd HT.out (fun i hi => hBU.block i hi) hBU.size (fun _ h => h.elim) hBX) Kw.trans (fun W l o o' hl h1 h2 _ => Kw.put W l o o' (Nat.le_trans hBU.size hl) h1 h2) (Below.refl _ _) (fun _ => rfl)
    (fun pre W => (W.heap[w.heap.size + 1 + 1]? = some (.cells #[.int .i64 (pre.length : Int)] 3 (0, 0)) ∧ pre.length ≤ 8192) ∧ LK (fun i => i = w.heap.size + 1 + 1) w.heap.size w U W)
    (fun c pre W => ((c = .ret ∧ 8192 < pre.length) ∧ W.heap[w.heap.size + 1]? = some (.cells #[.int .i64 3] 29 (0, 0))) ∧ LK (fun i => i = w.heap.size + 1 + 1 ∨ i = w.heap.size + 1) w.heap.size w U W)
    (OwnFrom.and (OwnFrom.and (Own.from (cells_own _ 3 (fun (pre : List (Nd w w.heap.size)) => #[.int .i64 (pre.length : Int)])) _) (ownFrom_pure _ _)) (LK_own (Nat.le_refl _) hBU.size))
    (fun c => OwnFrom.and (OwnFrom.and (ownFrom_pure _ _) (Own.from (cells_own _ 29 (fun _ => #[.int .i64 3])) _)) (LK_own (Nat.le_refl _) hBU.size))
    ⟨⟨hB3, Nat.zero_le _⟩, KeptT.refl _ _, hBU⟩
    (fun y a' _ => a' = { tmps := #[.agg #[.int .i64 x.f0.f0, .int .i64 x.f0.f1, .string x.f1, .string x.f2, .slice A4 x.f3.length c4, .slice A5 x.f4.length c5], .pointer (some ⟨w.heap.size, 0, none⟩), .pointer (some ⟨w.heap.size + 1, 0, none⟩), .pointer (some ⟨w.heap.size + 1 + 1, 0, none⟩), undef, undef, undef, undef, .agg #[.int .i64 x.f0.f0, .int .i64 x.f0.f1, .string x.f1, .string x.f2, .slice A4 x.f3.length c4, .slice A5 x.f4.length c5], .func (.func 65) #[] #[.pointer (some ⟨w.heap.size + 1 + 1 + 1, 0, none⟩)], .int .i64 (y.d : Int), .agg y.cs.toArray, undef, undef, undef, undef, undef, undef, undef, undef, undef, undef, undef, undef, undef, undef, undef, undef, undef, undef, undef, undef, undef, undef, undef, undef, undef, undef, undef, undef, undef, undef, undef, undef, undef, undef, undef, undef, undef, undef, undef, undef, undef, undef, undef, undef], defers := [] })
    (fun y a' _ X Y row hs hg hr => hs)
    ?assign ?body ?done ?stop
  case assign =>
    rintro l pre y W K hI hK
    dsimp only [encN]
    gi_wp2
    exact hK _ _ ((KeepsOthers.refl _).from _) (Kw.refl _ _ _) hI rfl
  case body =>
    rintro l pre y a' W hl ⟨r, hr⟩ ⟨⟨h3, hle⟩, hK⟩ rfl hlt
    have c3 := Mem.cell_of h3 0
    have f3 := Mem.free_of h3 0
    have HB2 := Aside0.mk (hK.1.cells hB2 (by show ¬ (w.heap.size + 1 = w.heap.size + 1 + 1); omega))
    have c2 := Mem.cell_of HB2.out 0
    have f2 := Mem.free_of HB2.out 0
    have HK := Aside0.mk hK
    have H3 := Aside0.mk h3
    obtain ⟨k, hk⟩ : ∃ k, pre.length = k := ⟨_, rfl⟩
    rw [hk] at c3 hle H3
    have hw_ := next_small hle
    have HLE := Aside0.mk hle
    have HKN := Aside0.mk hk
    clear hK h3 hr hle hk hlt
    have HKW : Aside0 (Kw w.heap.size (fun _ => False) W (W.setCell ⟨w.heap.size + 1 + 1, 0, none⟩ (.int .i64 ((k + 1 : Nat) : Int)))) := ⟨Kw.box H3.out (by decide) _ (by omega)⟩
    by_cases h1 : 8192 < k + 1
    · have e1 : ((8192 : Int) < (k : Int) + 1) = True := eq_true (by omega)
      have e2 : ((8192 : Int) < ((k + 1 : Nat) : Int)) = True := eq_true (by omega)
      have e3 : (8192 < k + 1) = True := eq_true h1
      have H1 := Aside0.mk h1
      clear h1
      gi_wp2_with (fail)
      refine ⟨((KeepsOthers.setCell _ _ _).trans (KeepsOthers.setCell _ _ _)).from _, ⟨⟨rfl, by rw [List.length_append, HKN.out]; exact H1.out⟩, ?_⟩, ?_⟩
      · exact Mem.set_heap ((Mem.set_other _ _ _ _ (by show w.heap.size + 1 ≠ w.heap.size + 1 + 1; omega)).trans HB2.out) 0 _
      · exact ⟨((KeptT.set ⟨HK.out.1.size, fun i hi hn => HK.out.1.block i hi (fun h => hn (.inl h))⟩ _ (.inl rfl)).set _ (.inr rfl)), (HK.out.2.setCell (p := ⟨w.heap.size + 1 + 1, 0, none⟩) (by show w.heap.size ≤ w.heap.size + 1 + 1; omega) _).setCell (p := ⟨w.heap.size + 1, 0, none⟩) (by show w.heap.size ≤ w.heap.size + 1; omega) _⟩
    · have e1 : ((8192 : Int) < (k : Int) + 1) = False := eq_false (by omega)
      have e2 : ((8192 : Int) < ((k + 1 : Nat) : Int)) = False := eq_false (by omega)
      have e3 : (8192 < k + 1) = False := eq_false h1
      have H1 := Aside0.mk h1
      clear h1
      gi_wp2_with (fail)
      refine ⟨(KeepsOthers.setCell _ _ _).from _, HKW.out, ⟨?_, by rw [List.length_append, HKN.out]; have := H1.out; show k + 1 ≤ 8192; omega⟩, HK.out.set _ rfl (by omega)⟩
      rw [Mem.set_heap H3.out 0 _, List.length_append, HKN.out]; rfl
  case done =>
    rintro D ys W hD hys ⟨⟨h3, hle⟩, hK⟩ hKD
    have HL : Aside0 (szT x ≤ 8192) := ⟨by rw [← HSZ.out, ← hys, List.length_map]; exact hle⟩
    have HB2 := Aside0.mk (hK.1.cells hB2 (by show ¬ (w.heap.size + 1 = w.heap.size + 1 + 1); omega))
    have HB1 := Aside0.mk (hK.1.cells hB1 (by show ¬ (w.heap.size = w.heap.size + 1 + 1); omega))
    have HBW := Aside0.mk hK.2
    have HWS : Aside0 (w.heap.size + 4 ≤ W.heap.size) := ⟨by have := hK.1.size; omega⟩
    have HKD := Aside0.mk hKD
    have HDL : Aside0 (w.heap.size + 4 ≤ D ∧ D < W.heap.size) := ⟨by omega, blk_lt' hKD⟩
    have a0 : ((W.alloc (.map #[] 0)).alloc (.cells #[.map (some W.heap.size)] 70)).cell? ⟨w.heap.size, 0, none⟩ = some (.int .i64 x.f0.f0) := Mem.cell_alloc (Mem.cell_alloc (Mem.cell_of HB1.out 0) _) _
    have a1 : ((W.alloc (.map #[] 0)).alloc (.cells #[.map (some W.heap.size)] 70)).cell? ⟨w.heap.size, 1, none⟩ = some (.int .i64 x.f0.f1) := Mem.cell_alloc (Mem.cell_alloc (Mem.cell_of HB1.out 1) _) _
    have a2 : ((W.alloc (.map #[] 0)).alloc (.cells #[.map (some W.heap.size)] 70)).cell? ⟨w.heap.size, 2, none⟩ = some (.string x.f1) := Mem.cell_alloc (Mem.cell_alloc (Mem.cell_of HB1.out 2) _) _
    have a3 : ((W.alloc (.map #[] 0)).alloc (.cells #[.map (some W.heap.size)] 70)).cell? ⟨w.heap.size, 3, none⟩ = some (.string x.f2) := Mem.cell_alloc (Mem.cell_alloc (Mem.cell_of HB1.out 3) _) _
    have a4 : ((W.alloc (.map #[] 0)).alloc (.cells #[.map (some W.heap.size)] 70)).cell? ⟨w.heap.size, 4, none⟩ = some (.slice A4 x.f3.length c4) := Mem.cell_alloc (Mem.cell_alloc (Mem.cell_of HB1.out 4) _) _
    have a5 : ((W.alloc (.map #[] 0)).alloc (.cells #[.map (some W.heap.size)] 70)).cell? ⟨w.heap.size, 5, none⟩ = some (.slice A5 x.f4.length c5) := Mem.cell_alloc (Mem.cell_alloc (Mem.cell_of HB1.out 5) _) _
    have hmm := @run_makeMap Try.prog
    clear hys h3 hle hK hKD
    go_wp2_with (fail)
    refine (nodes_calls _ _ _ _ _ _ _).mono ?_
    rintro e w1 ⟨rfl, rfl⟩
    clear a0 a1 a2 a3 a4 a5 hmm
    go_wp2_with (fail)
    have hVB : Below W.heap.size W (((W.alloc (.map #[] 0)).alloc (.cells #[.map (some W.heap.size)] 70)).alloc (.cells #[.int .i64 x.f0.f0, .int .i64 x.f0.f1, .string x.f1, .string x.f2, .slice A4 x.f3.length c4, .slice A5 x.f4.length c5] 27)) := below_alloc (below_alloc (below_alloc (Below.refl _ _) _) _) _
    have hVM : (((W.alloc (.map #[] 0)).alloc (.cells #[.map (some W.heap.size)] 70)).alloc (.cells #[.int .i64 x.f0.f0, .int .i64 x.f0.f1, .string x.f1, .string x.f2, .slice A4 x.f3.length c4, .slice A5 x.f4.length c5] 27)).heap[W.heap.size]? = some (.map #[] 0) := Mem.alloc_old (Mem.alloc_old (Mem.alloc_new _ _) _) _
    have hV4 : (((W.alloc (.map #[] 0)).alloc (.cells #[.map (some W.heap.size)] 70)).alloc (.cells #[.int .i64 x.f0.f0, .int .i64 x.f0.f1, .string x.f1, .string x.f2, .slice A4 x.f3.length c4, .slice A5 x.f4.length c5] 27)).heap[W.heap.size + 1]? = some (.cells #[.map (some W.heap.size)] 70 (0, 0)) := Mem.alloc_old (Mem.alloc_new_at _ _ _ (by rw [Mem.alloc_size])) _
    have hVX : (((W.alloc (.map #[] 0)).alloc (.cells #[.map (some W.heap.size)] 70)).alloc (.cells #[.int .i64 x.f0.f0, .int .i64 x.f0.f1, .string x.f1, .string x.f2, .slice A4 x.f3.length c4, .slice A5 x.f4.length c5] 27)).heap[W.heap.size + 1 + 1]? = some (.cells #[.int .i64 x.f0.f0, .int .i64 x.f0.f1, .string x.f1, .string x.f2, .slice A4 x.f3.length c4, .slice A5 x.f4.length c5] 27 (0, 0)) := Mem.alloc_new_at _ _ _ (by rw [Mem.alloc_size, Mem.alloc_size])
    have hVS : (((W.alloc (.map #[] 0)).alloc (.cells #[.map (some W.heap.size)] 70)).alloc (.cells #[.int .i64 x.f0.f0, .int .i64 x.f0.f1, .string x.f1, .string x.f2, .slice A4 x.f3.length c4, .slice A5 x.f4.length c5] 27)).heap.size = W.heap.size + 3 := by rw [Mem.alloc_size, Mem.alloc_size, Mem.alloc_size]
    generalize (((W.alloc (.map #[] 0)).alloc (.cells #[.map (some W.heap.size)] 70)).alloc (.cells #[.int .i64 x.f0.f0, .int .i64 x.f0.f1, .string x.f1, .string x.f2, .slice A4 x.f3.length c4, .slice A5 x.f4.length c5] 27)) = V at *
    have hV2 := (hVB.block _ (blk_lt' HB2.out)).trans HB2.out
    have HVD := Aside0.mk ((hVB.block _ (blk_lt' HKD.out)).trans HKD.out)
    have hBV := HBW.out.trans (hVB.mono HBW.out.size)
    generalize hbm : W.heap.size = bm at *
    clear hbm HB2 HB1 HBW HKD hVB
    have hws := HWS.out
    refine (wpIn_wide (n := 3)).1 ?_
    refine wpIn_rangeFunc_ownH (F := Fence.wide) (n := 3) rfl (by decide) (gf := 65) (lb := #[.pointer (some ⟨bm + 1 + 1, 0, none⟩)]) rfl trivial (enters_of Try.func65 (by kernel_rfl) rfl)
      (nodes_stops (T := fun _ => False) hd HT.out (fun i hi => hBV.block i hi) hBV.size (fun _ h => h.elim) hVX) Kw.trans (fun W l o o' hl h1 h2 _ => Kw.put W l o o' (Nat.le_trans hBV.size hl) h1 h2) (Below.refl _ _) (fun _ => rfl)
      (fun pre W => (MapS W bm (seenL (pre.map pl)) ∧ goC [] (pre.map pl) = 0) ∧ LK (fun i => i = bm) w.heap.size w V W)
      (fun c pre W => ((c = .ret ∧ goC [] (pre.map pl) ≠ 0) ∧ W.heap[w.heap.size + 1]? = some (.cells #[.int .i64 (goC [] (pre.map pl))] 29 (0, 0))) ∧ LK (fun i => i = bm ∨ i = w.heap.size + 1) w.heap.size w V W)
      (OwnFrom.and (OwnFrom.and (MapS_own (by omega) (fun (pre : List (Nd w w.heap.size)) => seenL (pre.map pl))) (ownFrom_pure _ _)) (LK_own (Nat.le_refl _) hBV.size))
      (fun c => OwnFrom.and (OwnFrom.and (ownFrom_pure _ _) (Own.from (cells_own _ 29 (fun (pre : List (Nd w w.heap.size)) => #[.int .i64 (goC [] (pre.map pl))])) _)) (LK_own (Nat.le_refl _) hBV.size))
      ⟨⟨hVM, rfl⟩, KeptT.refl _ _, hBV⟩
      (fun y a' Wr => ∃ Bx, V.heap.size ≤ Bx ∧ Wr.heap[Bx]? = some (.cells y.cs.toArray 27 (0, 0)) ∧ a' = { tmps := #[.agg #[.int .i64 x.f0.f0, .int .i64 x.f0.f1, .string x.f1, .string x.f2, .slice A4 x.f3.length c4, .slice A5 x.f4.length c5], .pointer (some ⟨w.heap.size, 0, none⟩), .pointer (some ⟨w.heap.size + 1, 0, none⟩), .pointer (some ⟨w.heap.size + 1 + 1, 0, none⟩), .pointer (some ⟨bm + 1, 0, none⟩), .int .i64 (y.d : Int), .pointer (some ⟨Bx, 0, none⟩), undef, .agg #[.int .i64 x.f0.f0, .int .i64 x.f0.f1, .string x.f1, .string x.f2, .slice A4 x.f3.length c4, .slice A5 x.f4.length c5], .func (.func 65) #[] #[.pointer (some ⟨w.heap.size + 1 + 1 + 1, 0, none⟩)], undef, undef, undef, undef, undef, undef, .map (some bm), .agg #[.int .i64 x.f0.f0, .int .i64 x.f0.f1, .string x.f1, .string x.f2, .slice A4 x.f3.length c4, .slice A5 x.f4.length c5], .func (.func 65) #[] #[.pointer (some ⟨bm + 1 + 1, 0, none⟩)], .int .i64 (y.d : Int), .agg y.cs.toArray, undef, undef, undef, undef, undef, undef, undef, undef, undef, undef, undef, undef, undef, undef, undef, undef, undef, undef, undef, undef, undef, undef, undef, undef, undef, undef, undef, undef, undef, undef, undef, undef, undef, undef, undef], defers := [] })
      (fun y a' _ X Y row hs hg hr => by obtain ⟨Bx, h1, h2, h3⟩ := hs; exact ⟨Bx, h1, cells_own Bx 27 (fun (_ : Unit) => y.cs.toArray) () X Y row h2 hg (fun r e => (hr r e).2), h3⟩)
      ?assign2 ?body2 ?done2 ?stop2
    case assign2 =>
      rintro l pre ⟨yd, z, ycs, yok, yhd⟩ W K hI hK
      obtain ⟨B4, e4, B5, e5, rfl, _⟩ := yok.open
      dsimp only [encN]
      gi_wp2
      have hbl : Below W.heap.size W (W.alloc (.cells #[.int .i64 z.f0.f0, .int .i64 z.f0.f1, .string z.f1, .string z.f2, .slice B4 z.f3.length e4, .slice B5 z.f4.length e5] 27)) := below_alloc (Below.refl _ _) _
      obtain ⟨⟨hM, hg⟩, hL⟩ := hI
      exact hK _ _ ((KeepsOthers.alloc _ _).from _) (Kw.below hbl hL.2.size) ⟨⟨Mem.alloc_old hM _, hg⟩, hL.on hbl hBV.size⟩ ⟨W.heap.size, hL.1.size, Mem.alloc_new _ _, rfl⟩
    case body2 =>
      rintro l pre ⟨yd, z, ycs, yok, yhd⟩ a' Wr hl ⟨r, hr⟩ ⟨⟨hM, hg⟩, hK⟩ ⟨Bx, hBx, bX, rfl⟩ hlt
      obtain ⟨B4, e4, B5, e5, rfl, l4, g4, l5, g5⟩ := yok.open
      have HF := Aside0.mk g4
      have HMAP : Aside0 ((pre ++ [(⟨yd, z, _, yok, yhd⟩ : Nd w w.heap.size)]).map pl = pre.map pl ++ [(yd, z)]) := ⟨by rw [List.map_append]; rfl⟩
      have GO := Aside0.mk (goC_one (pre.map pl) (yd, z) hg)
      have HM := Aside0.mk hM
      have HK := Aside0.mk hK
      have HX := Aside0.mk bX
      have HB2 := Aside0.mk (hK.1.cells hV2 (by show ¬ (w.heap.size + 1 = bm); omega))
      have HB4 := Aside0.mk (hK.1.cells hV4 (by show ¬ (bm + 1 = bm); omega))
      have HBX := Aside0.mk hBx
      obtain ⟨ks, hks⟩ : ∃ ks, keysP (pre.map pl) = ks := ⟨_, rfl⟩
      have HKS := Aside0.mk hks
      have x0 := Mem.cell_of bX 0
      have x1 := Mem.cell_of bX 1
      clear hr hM hK bX l4 g4 l5 g5 hg hlt hks
      by_cases h0 : yd = 0
      · have e1 : ((yd : Int) = 0) = True := eq_true (by omega)
        have e2 : ((yd : Int) == 0) = true := beq_iff_eq.2 (by omega)
        have e3 : ((0 : Int) < (yd : Int)) = False := eq_false (by omega)
        have e3' : (0 < yd) = False := eq_false (by omega)
        have e3'' : (yd = 0) = True := eq_true h0
        have HC := Aside0.mk (nodeK_calls Wr z.f0)
        have HBAD : Aside0 (badK (yd, z) = !nodeK z.f0) := ⟨by unfold badK; rw [show ((yd, z).1 == 0) = true from beq_iff_eq.2 h0, show decide (0 < (yd, z).1) = false from decide_eq_false (by show ¬ 0 < yd; omega)]; simp⟩
        clear h0
        gi_wp2_with (fail)
        refine ⟨trivial, ?_⟩
        refine (CallsIn.inRound l (callsIn_wide.2 HC.out)).mono ?_
        rintro e w3 ⟨rfl, hb3⟩
        have HB3 := Aside0.mk hb3
        have HM3 := Aside0.mk (show MapS w3 bm _ from (hb3.block _ (blk_lt' HM.out)).trans HM.out)
        have HK3 := Aside0.mk (HK.out.on hb3 hBV.size)
        have HX3 := Aside0.mk ((hb3.block _ (blk_lt' HX.out)).trans HX.out)
        have HB23 := Aside0.mk ((hb3.block _ (blk_lt' HB2.out)).trans HB2.out)
        have HB43 := Aside0.mk ((hb3.block _ (blk_lt' HB4.out)).trans HB4.out)
        clear hb3 HC x0 x1
        have c2 : w3.cell? ⟨w.heap.size + 1, 0, none⟩ = some (.int .i64 0) := Mem.cell_of HB23.out 0
        have f2 := Mem.free_of HB23.out 0
        have c4 : w3.cell? ⟨bm + 1, 0, none⟩ = some (.map (some bm)) := Mem.cell_of HB43.out 0
        have x0 : w3.cell? ⟨Bx, 0, none⟩ = some (.int .i64 z.f0.f0) := Mem.cell_of HX3.out 0
        have x1 : w3.cell? ⟨Bx, 1, none⟩ = some (.int .i64 z.f0.f1) := Mem.cell_of HX3.out 1
        cases hk_ : nodeK z.f0 with
        | false =>
          rw [hk_] at HBAD
          have HE : Aside0 (goC [] ((pre ++ [(⟨yd, z, _, yok, yhd⟩ : Nd w w.heap.size)]).map pl) = 2) := ⟨by rw [HMAP.out, GO.out, if_pos (by rw [HBAD.out]; rfl)]⟩
          gi_wp2_with (fail)
          refine ⟨((below_others HB3.out).trans (KeepsOthers.setCell _ _ _)).from _, ⟨⟨rfl, by rw [HE.out]; decide⟩, ?_⟩, ?_⟩
          · rw [HE.out]; exact Mem.set_heap HB23.out 0 _
          · exact LK.set ⟨⟨HK3.out.1.size, fun i hi hn => HK3.out.1.block i hi (fun h => hn (.inl h))⟩, HK3.out.2⟩ _ (.inr rfl) (Nat.le_succ _)
        | true =>
          rw [hk_] at HBAD
          gi_wp2_with (fail)
          refine ⟨trivial, ?_⟩
          cases hs_ : ks.any (sameK z.f0) with
          | true =>
            have HE : Aside0 (goC [] ((pre ++ [(⟨yd, z, _, yok, yhd⟩ : Nd w w.heap.size)]).map pl) = 5) := ⟨by rw [HMAP.out, GO.out, if_neg (by rw [HBAD.out]; simp), HKS.out, if_pos hs_]⟩
            have r1 : Sem.run Try.prog (Instr.lookup 70 (.map (some bm)) (.agg #[.int .i64 z.f0.f0, .int .i64 z.f0.f1]) false) w3 = .ok (.int .i64 1) w3 := by
              have h_ := look_run HM3.out z.f0
              rw [valP_one (by rw [HKS.out]; exact hs_)] at h_
              exact h_
            gi_wp2_with (fail)
            refine ⟨((below_others HB3.out).trans (KeepsOthers.setCell _ _ _)).from _, ⟨⟨rfl, by rw [HE.out]; decide⟩, ?_⟩, ?_⟩
            · rw [HE.out]; exact Mem.set_heap HB23.out 0 _
            · exact LK.set ⟨⟨HK3.out.1.size, fun i hi hn => HK3.out.1.block i hi (fun h => hn (.inl h))⟩, HK3.out.2⟩ _ (.inr rfl) (Nat.le_succ _)
          | false =>
            have HE : Aside0 (goC [] ((pre ++ [(⟨yd, z, _, yok, yhd⟩ : Nd w w.heap.size)]).map pl) = nodeP z) := ⟨by rw [HMAP.out, GO.out, if_neg (by rw [HBAD.out]; simp), HKS.out, if_neg (by rw [hs_]; simp)]⟩
            have hfn : findP (seenL (pre.map pl)) z.f0 0 = none := findP_none _ _ _ (by rw [HKS.out]; exact hs_)
            have r1 : Sem.run Try.prog (Instr.lookup 70 (.map (some bm)) (.agg #[.int .i64 z.f0.f0, .int .i64 z.f0.f1]) false) w3 = .ok (.int .i64 0) w3 := by
              have h_ := look_run HM3.out z.f0
              rw [valP_zero (by rw [HKS.out]; exact hs_)] at h_
              exact h_
            have hMd : MapS w3.drew bm (seenL (pre.map pl)) := HM3.out
            have r1d : Sem.run Try.prog (Instr.lookup 70 (.map (some bm)) (.agg #[.int .i64 z.f0.f0, .int .i64 z.f0.f1]) false) w3.drew = .ok (.int .i64 0) w3.drew := by
              have h_ := look_run hMd z.f0
              rw [valP_zero (by rw [HKS.out]; exact hs_)] at h_
              exact h_
            have r2 : Sem.run Try.prog (Instr.mapEntry 70 (.map (some bm)) (.agg #[.int .i64 z.f0.f0, .int .i64 z.f0.f1])) w3.drew = _ := entry_run hMd z.f0 hfn
            have hM1 := MapS.put (seenL (pre.map pl) ++ [(z.f0, 0)]) hMd
            have hM2 := MapS.put (seenL (pre.map pl) ++ [(z.f0, 1)]) hM1
            have r3 : Sem.run Try.prog (Instr.lookup 70 (.map (some bm)) (.agg #[.int .i64 z.f0.f0, .int .i64 z.f0.f1]) false) (w3.drew.putObj bm (.map (ents 0 (seenL (pre.map pl) ++ [(z.f0, 0)])).toArray (seenL (pre.map pl) ++ [(z.f0, 0)]).length)) = .ok (.int .i64 0) (w3.drew.putObj bm (.map (ents 0 (seenL (pre.map pl) ++ [(z.f0, 0)])).toArray (seenL (pre.map pl) ++ [(z.f0, 0)]).length)) := by
              have h_ := look_run hM1 z.f0
              rw [valP_new hfn 0] at h_
              exact h_
            have r4 := store_run z.f0 1 hM1
            have hw1 : IntKind.i64.wrap 1 = 1 := wrap_one
            have HKP1 : Kw w.heap.size (fun _ => False) w3.drew (w3.drew.putObj bm (.map (ents 0 (seenL (pre.map pl) ++ [(z.f0, 0)])).toArray (seenL (pre.map pl) ++ [(z.f0, 0)]).length)) := Kw.put _ _ _ _ (by omega) hMd rfl
            have HKP2 := HKP1.trans (Kw.put _ _ _ (.map (ents 0 (seenL (pre.map pl) ++ [(z.f0, 1)])).toArray (seenL (pre.map pl) ++ [(z.f0, 1)]).length) (by omega) hM1 rfl)
            have HP2 := Aside0.mk ((Kw.below ((HB3.out.trans ((below_drew (Below.refl _ _)).mono HB3.out.size))) HK.out.2.size).trans HKP2)
            have HF2 : Aside0 (KeepsFrom V.heap.size Wr _) := ⟨((((below_others HB3.out).trans (KeepsOthers.drew _)).from _).trans (KeepsFrom.put (b := bm) (o := .map (ents 0 (seenL (pre.map pl) ++ [(z.f0, 0)])).toArray (seenL (pre.map pl) ++ [(z.f0, 0)]).length) (by omega))).trans (KeepsFrom.put (b := bm) (o := .map (ents 0 (seenL (pre.map pl) ++ [(z.f0, 1)])).toArray (seenL (pre.map pl) ++ [(z.f0, 1)]).length) (by omega))⟩
            have hkd := HK3.out.on (below_drew (Below.refl _ _)) hBV.size
            have HL2 : Aside0 (LK (fun i => i = bm) w.heap.size w V _) := ⟨(hkd.1.put (.map (ents 0 (seenL (pre.map pl) ++ [(z.f0, 0)])).toArray (seenL (pre.map pl) ++ [(z.f0, 0)]).length) rfl).put (.map (ents 0 (seenL (pre.map pl) ++ [(z.f0, 1)])).toArray (seenL (pre.map pl) ++ [(z.f0, 1)]).length) rfl, below_put (below_put hkd.2 (by omega) _) (by omega) _⟩
            have HMX := Aside0.mk hM2
            have HXX : Aside0 ((((w3.drew.putObj bm (.map (ents 0 (seenL (pre.map pl) ++ [(z.f0, 0)])).toArray (seenL (pre.map pl) ++ [(z.f0, 0)]).length)).putObj bm (.map (ents 0 (seenL (pre.map pl) ++ [(z.f0, 1)])).toArray (seenL (pre.map pl) ++ [(z.f0, 1)]).length))).heap[Bx]? = some (.cells #[.int .i64 z.f0.f0, .int .i64 z.f0.f1, .string z.f1, .string z.f2, .slice B4 z.f3.length e4, .slice B5 z.f4.length e5] 27 (0, 0))) := ⟨(World.putObj_heap_other (by have := HBX.out; omega)).trans ((World.putObj_heap_other (by have := HBX.out; omega)).trans HX3.out)⟩
            generalize hp1 : w3.drew.putObj bm (.map (ents 0 (seenL (pre.map pl) ++ [(z.f0, 0)])).toArray (seenL (pre.map pl) ++ [(z.f0, 0)]).length) = P1 at *
            generalize hp2 : P1.putObj bm (.map (ents 0 (seenL (pre.map pl) ++ [(z.f0, 1)])).toArray (seenL (pre.map pl) ++ [(z.f0, 1)]).length) = P2 at *
            clear hMd hM1 hM2 HKP1 HKP2 hkd hfn hp1 hp2
            gi_upto_region 15 with (fail)
            gi_cut [44] from 56 (fun v wr => Aside0 (wr = P2))
            case first =>
              gi_region
              all_goals
                gi_wp2_with (fail)
                gi_meet
                case rel => exact ⟨rfl⟩
            case rest =>
              obtain rfl := hcut.out
              clear r1 r1d r2 r3 r4 hw1 c2 f2 c4 x0 x1
              have HNC := Aside0.mk (node_calls wc z B4 e4 (.slice B5 z.f4.length e5) (Kd.F_now (Kd.F_step HF.out (fun i hi _ => HL2.out.2.block i hi))))
              have x0 : wc.cell? ⟨Bx, 0, none⟩ = some (.int .i64 z.f0.f0) := Mem.cell_of HXX.out 0
              have x1 : wc.cell? ⟨Bx, 1, none⟩ = some (.int .i64 z.f0.f1) := Mem.cell_of HXX.out 1
              have x2 : wc.cell? ⟨Bx, 2, none⟩ = some (.string z.f1) := Mem.cell_of HXX.out 2
              have x3 : wc.cell? ⟨Bx, 3, none⟩ = some (.string z.f2) := Mem.cell_of HXX.out 3
              have x4 : wc.cell? ⟨Bx, 4, none⟩ = some (.slice B4 z.f3.length e4) := Mem.cell_of HXX.out 4
              have x5 : wc.cell? ⟨Bx, 5, none⟩ = some (.slice B5 z.f4.length e5) := Mem.cell_of HXX.out 5
              gi_wp2_with (fail)
              refine ⟨trivial, ?_⟩
              refine (CallsIn.inRound l (callsIn_wide.2 HNC.out)).mono ?_
              rintro e w5 ⟨rfl, hb5⟩
              have HB5 := Aside0.mk hb5
              have HK5 := Aside0.mk (HL2.out.on hb5 hBV.size)
              have HB25 := Aside0.mk (HK5.out.1.cells hV2 (by show ¬ (w.heap.size + 1 = bm); omega))
              have HM5 := Aside0.mk (show MapS w5 bm _ from (hb5.block _ (blk_lt' HMX.out)).trans HMX.out)
              clear hb5 HNC x0 x1 x2 x3 x4 x5
              have c2 : w5.cell? ⟨w.heap.size + 1, 0, none⟩ = some (.int .i64 0) := Mem.cell_of HB25.out 0
              have f2 := Mem.free_of HB25.out 0
              by_cases hn_ : nodeP z = 0
              · have HN := Aside0.mk hn_
                have e4_ : (nodeP z == 0) = true := beq_iff_eq.2 hn_
                have e5_ : (nodeP z = 0) = True := eq_true hn_
                clear hn_
                gi_wp2_with (fail)
                refine ⟨HF2.out.trans ((below_others HB5.out).from _), HP2.out.trans (Kw.below HB5.out HL2.out.2.size), ⟨?_, by rw [HE.out, HN.out]⟩, HK5.out⟩
                rw [HMAP.out, seenL_snoc]
                exact HM5.out
              · have e4_ : (nodeP z == 0) = false := beq_eq_false_iff_ne.2 hn_
                have e5_ : (nodeP z = 0) = False := eq_false hn_
                have HN := Aside0.mk hn_
                clear hn_
                gi_wp2_with (fail)
                refine ⟨(HF2.out.trans ((below_others HB5.out).from _)).trans ((KeepsOthers.setCell _ _ _).from _), ⟨⟨rfl, by rw [HE.out]; exact HN.out⟩, ?_⟩, ?_⟩
                · rw [HE.out]; exact Mem.set_heap HB25.out 0 _
                · exact LK.set ⟨⟨HK5.out.1.size, fun i hi hn => HK5.out.1.block i hi (fun h => hn (.inl h))⟩, HK5.out.2⟩ _ (.inr rfl) (Nat.le_succ _)
      · have e1 : ((yd : Int) = 0) = False := eq_false (by omega)
        have e2 : ((yd : Int) == 0) = false := beq_eq_false_iff_ne.2 (by omega)
        have e3 : ((0 : Int) < (yd : Int)) = True := eq_true (by omega)
        have e3' : (0 < yd) = True := eq_true (by omega)
        have e3'' : (yd = 0) = False := eq_false h0
        have HC := Aside0.mk (right_calls Wr z.f0)
        have HBAD : Aside0 (badK (yd, z) = !rightK z.f0) := ⟨by unfold badK; rw [show ((yd, z).1 == 0) = false from beq_eq_false_iff_ne.2 h0, show decide (0 < (yd, z).1) = true from decide_eq_true (by show 0 < yd; omega)]; simp⟩
        clear h0
        gi_wp2_with (fail)
        refine ⟨trivial, ?_⟩
        gi_wp2_with (fail)
        refine ⟨trivial, ?_⟩
        refine (CallsIn.inRound l (callsIn_wide.2 HC.out)).mono ?_
        rintro e w3 ⟨rfl, hb3⟩
        have HB3 := Aside0.mk hb3
        have HM3 := Aside0.mk (show MapS w3 bm _ from (hb3.block _ (blk_lt' HM.out)).trans HM.out)
        have HK3 := Aside0.mk (HK.out.on hb3 hBV.size)
        have HX3 := Aside0.mk ((hb3.block _ (blk_lt' HX.out)).trans HX.out)
        have HB23 := Aside0.mk ((hb3.block _ (blk_lt' HB2.out)).trans HB2.out)
        have HB43 := Aside0.mk ((hb3.block _ (blk_lt' HB4.out)).trans HB4.out)
        clear hb3 HC x0 x1
        have c2 : w3.cell? ⟨w.heap.size + 1, 0, none⟩ = some (.int .i64 0) := Mem.cell_of HB23.out 0
        have f2 := Mem.free_of HB23.out 0
        have c4 : w3.cell? ⟨bm + 1, 0, none⟩ = some (.map (some bm)) := Mem.cell_of HB43.out 0
        have x0 : w3.cell? ⟨Bx, 0, none⟩ = some (.int .i64 z.f0.f0) := Mem.cell_of HX3.out 0
        have x1 : w3.cell? ⟨Bx, 1, none⟩ = some (.int .i64 z.f0.f1) := Mem.cell_of HX3.out 1
        cases hk_ : rightK z.f0 with
        | false =>
          rw [hk_] at HBAD
          have HE : Aside0 (goC [] ((pre ++ [(⟨yd, z, _, yok, yhd⟩ : Nd w w.heap.size)]).map pl) = 2) := ⟨by rw [HMAP.out, GO.out, if_pos (by rw [HBAD.out]; rfl)]⟩
          gi_wp2_with (fail)
          refine ⟨((below_others HB3.out).trans (KeepsOthers.setCell _ _ _)).from _, ⟨⟨rfl, by rw [HE.out]; decide⟩, ?_⟩, ?_⟩
          · rw [HE.out]; exact Mem.set_heap HB23.out 0 _
          · exact LK.set ⟨⟨HK3.out.1.size, fun i hi hn => HK3.out.1.block i hi (fun h => hn (.inl h))⟩, HK3.out.2⟩ _ (.inr rfl) (Nat.le_succ _)
        | true =>
          rw [hk_] at HBAD
          cases hs_ : ks.any (sameK z.f0) with
          | true =>
            have HE : Aside0 (goC [] ((pre ++ [(⟨yd, z, _, yok, yhd⟩ : Nd w w.heap.size)]).map pl) = 5) := ⟨by rw [HMAP.out, GO.out, if_neg (by rw [HBAD.out]; simp), HKS.out, if_pos hs_]⟩
            have r1 : Sem.run Try.prog (Instr.lookup 70 (.map (some bm)) (.agg #[.int .i64 z.f0.f0, .int .i64 z.f0.f1]) false) w3 = .ok (.int .i64 1) w3 := by
              have h_ := look_run HM3.out z.f0
              rw [valP_one (by rw [HKS.out]; exact hs_)] at h_
              exact h_
            gi_wp2_with (fail)
            refine ⟨((below_others HB3.out).trans (KeepsOthers.setCell _ _ _)).from _, ⟨⟨rfl, by rw [HE.out]; decide⟩, ?_⟩, ?_⟩
            · rw [HE.out]; exact Mem.set_heap HB23.out 0 _
            · exact LK.set ⟨⟨HK3.out.1.size, fun i hi hn => HK3.out.1.block i hi (fun h => hn (.inl h))⟩, HK3.out.2⟩ _ (.inr rfl) (Nat.le_succ _)
          | false =>
            have HE : Aside0 (goC [] ((pre ++ [(⟨yd, z, _, yok, yhd⟩ : Nd w w.heap.size)]).map pl) = nodeP z) := ⟨by rw [HMAP.out, GO.out, if_neg (by rw [HBAD.out]; simp), HKS.out, if_neg (by rw [hs_]; simp)]⟩
            have hfn : findP (seenL (pre.map pl)) z.f0 0 = none := findP_none _ _ _ (by rw [HKS.out]; exact hs_)
            have r1 : Sem.run Try.prog (Instr.lookup 70 (.map (some bm)) (.agg #[.int .i64 z.f0.f0, .int .i64 z.f0.f1]) false) w3 = .ok (.int .i64 0) w3 := by
              have h_ := look_run HM3.out z.f0
              rw [valP_zero (by rw [HKS.out]; exact hs_)] at h_
              exact h_
            have hMd : MapS w3.drew bm (seenL (pre.map pl)) := HM3.out
            have r1d : Sem.run Try.prog (Instr.lookup 70 (.map (some bm)) (.agg #[.int .i64 z.f0.f0, .int .i64 z.f0.f1]) false) w3.drew = .ok (.int .i64 0) w3.drew := by
              have h_ := look_run hMd z.f0
              rw [valP_zero (by rw [HKS.out]; exact hs_)] at h_
              exact h_
            have r2 : Sem.run Try.prog (Instr.mapEntry 70 (.map (some bm)) (.agg #[.int .i64 z.f0.f0, .int .i64 z.f0.f1])) w3.drew = _ := entry_run hMd z.f0 hfn
            have hM1 := MapS.put (seenL (pre.map pl) ++ [(z.f0, 0)]) hMd
            have hM2 := MapS.put (seenL (pre.map pl) ++ [(z.f0, 1)]) hM1
            have r3 : Sem.run Try.prog (Instr.lookup 70 (.map (some bm)) (.agg #[.int .i64 z.f0.f0, .int .i64 z.f0.f1]) false) (w3.drew.putObj bm (.map (ents 0 (seenL (pre.map pl) ++ [(z.f0, 0)])).toArray (seenL (pre.map pl) ++ [(z.f0, 0)]).length)) = .ok (.int .i64 0) (w3.drew.putObj bm (.map (ents 0 (seenL (pre.map pl) ++ [(z.f0, 0)])).toArray (seenL (pre.map pl) ++ [(z.f0, 0)]).length)) := by
              have h_ := look_run hM1 z.f0
              rw [valP_new hfn 0] at h_
              exact h_
            have r4 := store_run z.f0 1 hM1
            have hw1 : IntKind.i64.wrap 1 = 1 := wrap_one
            have HKP1 : Kw w.heap.size (fun _ => False) w3.drew (w3.drew.putObj bm (.map (ents 0 (seenL (pre.map pl) ++ [(z.f0, 0)])).toArray (seenL (pre.map pl) ++ [(z.f0, 0)]).length)) := Kw.put _ _ _ _ (by omega) hMd rfl
            have HKP2 := HKP1.trans (Kw.put _ _ _ (.map (ents 0 (seenL (pre.map pl) ++ [(z.f0, 1)])).toArray (seenL (pre.map pl) ++ [(z.f0, 1)]).length) (by omega) hM1 rfl)
            have HP2 := Aside0.mk ((Kw.below ((HB3.out.trans ((below_drew (Below.refl _ _)).mono HB3.out.size))) HK.out.2.size).trans HKP2)
            have HF2 : Aside0 (KeepsFrom V.heap.size Wr _) := ⟨((((below_others HB3.out).trans (KeepsOthers.drew _)).from _).trans (KeepsFrom.put (b := bm) (o := .map (ents 0 (seenL (pre.map pl) ++ [(z.f0, 0)])).toArray (seenL (pre.map pl) ++ [(z.f0, 0)]).length) (by omega))).trans (KeepsFrom.put (b := bm) (o := .map (ents 0 (seenL (pre.map pl) ++ [(z.f0, 1)])).toArray (seenL (pre.map pl) ++ [(z.f0, 1)]).length) (by omega))⟩
            have hkd := HK3.out.on (below_drew (Below.refl _ _)) hBV.size
            have HL2 : Aside0 (LK (fun i => i = bm) w.heap.size w V _) := ⟨(hkd.1.put (.map (ents 0 (seenL (pre.map pl) ++ [(z.f0, 0)])).toArray (seenL (pre.map pl) ++ [(z.f0, 0)]).length) rfl).put (.map (ents 0 (seenL (pre.map pl) ++ [(z.f0, 1)])).toArray (seenL (pre.map pl) ++ [(z.f0, 1)]).length) rfl, below_put (below_put hkd.2 (by omega) _) (by omega) _⟩
            have HMX := Aside0.mk hM2
            have HXX : Aside0 ((((w3.drew.putObj bm (.map (ents 0 (seenL (pre.map pl) ++ [(z.f0, 0)])).toArray (seenL (pre.map pl) ++ [(z.f0, 0)]).length)).putObj bm (.map (ents 0 (seenL (pre.map pl) ++ [(z.f0, 1)])).toArray (seenL (pre.map pl) ++ [(z.f0, 1)]).length))).heap[Bx]? = some (.cells #[.int .i64 z.f0.f0, .int .i64 z.f0.f1, .string z.f1, .string z.f2, .slice B4 z.f3.length e4, .slice B5 z.f4.length e5] 27 (0, 0))) := ⟨(World.putObj_heap_other (by have := HBX.out; omega)).trans ((World.putObj_heap_other (by have := HBX.out; omega)).trans HX3.out)⟩
            generalize hp1 : w3.drew.putObj bm (.map (ents 0 (seenL (pre.map pl) ++ [(z.f0, 0)])).toArray (seenL (pre.map pl) ++ [(z.f0, 0)]).length) = P1 at *
            generalize hp2 : P1.putObj bm (.map (ents 0 (seenL (pre.map pl) ++ [(z.f0, 1)])).toArray (seenL (pre.map pl) ++ [(z.f0, 1)]).length) = P2 at *
            clear hMd hM1 hM2 HKP1 HKP2 hkd hfn hp1 hp2
            gi_upto_region 15 with (fail)
            gi_cut [44] from 56 (fun v wr => Aside0 (wr = P2))
            case first =>
              gi_region
              all_goals
                gi_wp2_with (fail)
                gi_meet
                case rel => exact ⟨rfl⟩
            case rest =>
              obtain rfl := hcut.out
              clear r1 r1d r2 r3 r4 hw1 c2 f2 c4 x0 x1
              have HNC := Aside0.mk (node_calls wc z B4 e4 (.slice B5 z.f4.length e5) (Kd.F_now (Kd.F_step HF.out (fun i hi _ => HL2.out.2.block i hi))))
              have x0 : wc.cell? ⟨Bx, 0, none⟩ = some (.int .i64 z.f0.f0) := Mem.cell_of HXX.out 0
              have x1 : wc.cell? ⟨Bx, 1, none⟩ = some (.int .i64 z.f0.f1) := Mem.cell_of HXX.out 1
              have x2 : wc.cell? ⟨Bx, 2, none⟩ = some (.string z.f1) := Mem.cell_of HXX.out 2
              have x3 : wc.cell? ⟨Bx, 3, none⟩ = some (.string z.f2) := Mem.cell_of HXX.out 3
              have x4 : wc.cell? ⟨Bx, 4, none⟩ = some (.slice B4 z.f3.length e4) := Mem.cell_of HXX.out 4
              have x5 : wc.cell? ⟨Bx, 5, none⟩ = some (.slice B5 z.f4.length e5) := Mem.cell_of HXX.out 5
              gi_wp2_with (fail)
              refine ⟨trivial, ?_⟩
              refine (CallsIn.inRound l (callsIn_wide.2 HNC.out)).mono ?_
              rintro e w5 ⟨rfl, hb5⟩
              have HB5 := Aside0.mk hb5
              have HK5 := Aside0.mk (HL2.out.on hb5 hBV.size)
              have HB25 := Aside0.mk (HK5.out.1.cells hV2 (by show ¬ (w.heap.size + 1 = bm); omega))
              have HM5 := Aside0.mk (show MapS w5 bm _ from (hb5.block _ (blk_lt' HMX.out)).trans HMX.out)
              clear hb5 HNC x0 x1 x2 x3 x4 x5
              have c2 : w5.cell? ⟨w.heap.size + 1, 0, none⟩ = some (.int .i64 0) := Mem.cell_of HB25.out 0
              have f2 := Mem.free_of HB25.out 0
              by_cases hn_ : nodeP z = 0
              · have HN := Aside0.mk hn_
                have e4_ : (nodeP z == 0) = true := beq_iff_eq.2 hn_
                have e5_ : (nodeP z = 0) = True := eq_true hn_
                clear hn_
                gi_wp2_with (fail)
                refine ⟨HF2.out.trans ((below_others HB5.out).from _), HP2.out.trans (Kw.below HB5.out HL2.out.2.size), ⟨?_, by rw [HE.out, HN.out]⟩, HK5.out⟩
                rw [HMAP.out, seenL_snoc]
                exact HM5.out
              · have e4_ : (nodeP z == 0) = false := beq_eq_false_iff_ne.2 hn_
                have e5_ : (nodeP z = 0) = False := eq_false hn_
                have HN := Aside0.mk hn_
                clear hn_
                gi_wp2_with (fail)
                refine ⟨(HF2.out.trans ((below_others HB5.out).from _)).trans ((KeepsOthers.setCell _ _ _).from _), ⟨⟨rfl, by rw [HE.out]; exact HN.out⟩, ?_⟩, ?_⟩
                · rw [HE.out]; exact Mem.set_heap HB25.out 0 _
                · exact LK.set ⟨⟨HK5.out.1.size, fun i hi hn => HK5.out.1.block i hi (fun h => hn (.inl h))⟩, HK5.out.2⟩ _ (.inr rfl) (Nat.le_succ _)
    case done2 =>
      rintro D2 ys W hD2 hys ⟨⟨hM, hg⟩, hK⟩ hKD2
      have HG : Aside0 (checkP x = 0) := ⟨by unfold checkP; rw [if_neg (by have := HL.out; omega), ← hys]; exact hg⟩
      have HB2 := Aside0.mk (hK.1.cells hV2 (by show ¬ (w.heap.size + 1 = bm); omega))
      have HD1 := Aside0.mk (hK.1.cells HVD.out (by show ¬ (D = bm); have := HDL.out; omega))
      have HK := Aside0.mk hK
      have HD2 := Aside0.mk hKD2
      have c2 := Mem.cell_of HB2.out 0
      have f2 := Mem.free_of HB2.out 0
      clear hM hg hys hK hKD2
      go_wp2_with (fail)
      have h0 := HDL.out
      have he1 := (Mem.set_other W ⟨w.heap.size + 1, 0, none⟩ (.int .i64 0) D2 (by show D2 ≠ w.heap.size + 1; omega)).trans HD2.out
      have he2 := (Mem.set_other W ⟨w.heap.size + 1, 0, none⟩ (.int .i64 0) D (by show D ≠ w.heap.size + 1; omega)).trans HD1.out
      have he3 := Mem.set_heap HB2.out 0 (.int .i64 0)
      have he4 : ((W.setCell ⟨w.heap.size + 1, 0, none⟩ (.int .i64 0)).putObj D2 (.deferred none)).heap[D]? = _ := (World.putObj_heap_other (by omega)).trans he2
      have he5 : ((W.setCell ⟨w.heap.size + 1, 0, none⟩ (.int .i64 0)).putObj D2 (.deferred none)).heap[w.heap.size + 1]? = _ := (World.putObj_heap_other (by omega)).trans he3
      have he6 : (((W.setCell ⟨w.heap.size + 1, 0, none⟩ (.int .i64 0)).putObj D2 (.deferred none)).putObj D (.deferred none)).heap[w.heap.size + 1]? = some (.cells #[.int .i64 0] 29 (0, 0)) := (World.putObj_heap_other (by omega)).trans he5
      refine ⟨by simp, .inl ⟨_, _, rfl, run_takeDeferred he1, by simp, .inl ⟨_, _, rfl, run_takeDeferred he4, ?_⟩⟩⟩
      refine ⟨_, results_ci rfl _ _ (w.heap.size + 1) 0 rfl (Mem.cell_of he6 0) Try.underlying29, by rw [HG.out], ?_⟩
      exact ((below_set HK.out.2 (Nat.le_succ _)).trans (belowK_b (w := V) hBV.size _ D2 _ _ hD2 he1 rfl rfl)).trans (belowK_b (w := U) hBU.size _ D _ _ hD he4 rfl rfl)
    case stop2 =>
      rintro D2 c pre W hD2 hsp ⟨⟨⟨rfl, hl⟩, h2⟩, hK⟩ hKD2
      have HG : Aside0 (checkP x = goC [] (pre.map pl)) := ⟨by unfold checkP; rw [if_neg (by have := HL.out; omega)]; exact goC_prefix hsp hl⟩
      have HD1 := Aside0.mk (hK.1.cells HVD.out (by have := HDL.out; rintro (h | h) <;> omega))
      refine wpIn_wide.2 ?_
      go_wp2_with (fail)
      have h0 := HDL.out
      have he4 : (W.putObj D2 (.deferred none)).heap[D]? = _ := (World.putObj_heap_other (by omega)).trans HD1.out
      have he5 : (W.putObj D2 (.deferred none)).heap[w.heap.size + 1]? = _ := (World.putObj_heap_other (by omega)).trans h2
      have he6 : ((W.putObj D2 (.deferred none)).putObj D (.deferred none)).heap[w.heap.size + 1]? = some (.cells #[.int .i64 (goC [] (pre.map pl))] 29 (0, 0)) := (World.putObj_heap_other (by omega)).trans he5
      refine ⟨by simp, .inl ⟨_, _, rfl, run_takeDeferred hKD2, by simp, .inl ⟨_, _, rfl, run_takeDeferred he4, ?_⟩⟩⟩
      refine ⟨_, results_ci rfl _ _ (w.heap.size + 1) _ rfl (Mem.cell_of he6 0) Try.underlying29, by rw [HG.out], ?_⟩
      exact (hK.2.trans (belowK_b (w := V) hBV.size _ D2 _ _ hD2 hKD2 rfl rfl)).trans (belowK_b (w := U) hBU.size _ D _ _ hD he4 rfl rfl)
  case stop =>
    rintro D c pre W hD hsp ⟨⟨⟨rfl, hl⟩, h2⟩, hK⟩ hKD
    have HL : Aside0 (8192 < szT x) := ⟨by
      have := hsp.length_le
      rw [List.length_map, HSZ.out] at this
      omega⟩
    clear hsp hl
    refine wpIn_wide.2 ?_
    go_wp2_with (fail)
    refine ⟨by simp, .inl ⟨_, _, rfl, run_takeDeferred hKD, ?_⟩⟩
    have h2' : (W.putObj D (.deferred none)).heap[w.heap.size + 1]? = some (.cells #[.int .i64 3] 29 (0, 0)) := (World.putObj_heap_other (by omega)).trans h2
    refine ⟨_, results_ci rfl _ _ (w.heap.size + 1) 3 rfl (Mem.cell_of h2' 0) Try.underlying29, ?_, hK.2.trans (belowK_b (w := U) hBU.size W D _ _ hD hKD rfl rfl)⟩
    unfold checkP
    rw [if_pos HL.out]
end Go.Proofs.Ytnkbgimihikhoaa.PVt
namespace Go.Proofs.Ytnkbgimihikhoaa.PVt
open Go.RowKit Go.Proofs.YtnkbgimihikhoaaW.PrintWords Go.Proofs.YtnkbgimihikhoaaW.PrintLast Go.Proofs.YtnkbgimihikhoaaW.PrintMore
attribute [local go_sem] max2_int min2_int max_two min_two max_three min_three max_four min_four   -- for this text's walks alone
set_option linter.unusedVariables false
set_option linter.unusedSimpArgs false
mutual
def topiaryref15_Copy.l0 : Nat → Int → Int → Int → ByteArray → ByteArray → List (S99) → List (S27) → Int → Int → ByteArray → ByteArray → List (S99) → List (S27) → Option (Int × Int × ByteArray × ByteArray × (List (S99)) × (List (S27)))
  | 0, _, _, _, _, _, _, _, _, _, _, _, _, _ => none
  | k + 1, x4, x102000, x102001, x102002, x102003, x102004, x102005, x110000, x110001, x110002, x110003, x110004, x110005 => if x4 < (x102005.length : Int) then (if 0 ≤ x4 then ((topiaryref15_Copy.f k ((rd_T27 x102005 x4).f0.f0) ((rd_T27 x102005 x4).f0.f1) ((rd_T27 x102005 x4).f1) ((rd_T27 x102005 x4).f2) ((rd_T27 x102005 x4).f3) ((rd_T27 x102005 x4).f4)).bind fun bt111 => (if x110005.length < 1466015503701 then (topiaryref15_Copy.l0 k (wrap64 (x4 + 1)) x102000 x102001 x102002 x102003 x102004 x102005 x110000 x110001 x110002 x110003 x110004 (x110005 ++ [(⟨(⟨bt111.1, bt111.2.1⟩ : S23), bt111.2.2.1, bt111.2.2.2.1, bt111.2.2.2.2.1, bt111.2.2.2.2.2⟩ : S27)])) else (none))) else (none)) else (some (x110000, x110001, x110002, x110003, x110004, x110005))
def topiaryref15_Copy.f : Nat → Int → Int → ByteArray → ByteArray → List (S99) → List (S27) → Option (Int × Int × ByteArray × ByteArray × (List (S99)) × (List (S27)))
  | 0, _, _, _, _, _, _ => none
  | k + 1, a0_0, a0_1, a0_2, a0_3, l0_4, l0_5 => (some (([] : List (S99)) : List (S99))).bind fun y103 => (if y103.length + l0_4.length < 4398046511104 then (topiaryref15_Copy.l0 k 0 a0_0 a0_1 a0_2 a0_3 l0_4 l0_5 a0_0 a0_1 a0_2 a0_3 (y103 ++ l0_4) ([] : List (S27))) else (none))
end
theorem topiaryref15_Copy.mono_l : ∀ k, (∀ y0 y1 y2 y3 y4 y5, LeO (topiaryref15_Copy.f k y0 y1 y2 y3 y4 y5) (topiaryref15_Copy.f (k + 1) y0 y1 y2 y3 y4 y5)) ∧ (∀ y0 y1 y2 y3 y4 y5 y6 y7 y8 y9 y10 y11 y12, LeO (topiaryref15_Copy.l0 k y0 y1 y2 y3 y4 y5 y6 y7 y8 y9 y10 y11 y12) (topiaryref15_Copy.l0 (k + 1) y0 y1 y2 y3 y4 y5 y6 y7 y8 y9 y10 y11 y12))
  | 0 => ⟨fun _ _ _ _ _ _ r h => by simp [topiaryref15_Copy.f] at h, fun _ _ _ _ _ _ _ _ _ _ _ _ _ r h => by simp [topiaryref15_Copy.l0] at h⟩
  | k + 1 => by
    obtain ⟨ih0, ih1⟩ := topiaryref15_Copy.mono_l k
    refine ⟨?_, ?_⟩
    · intro y0 y1 y2 y3 y4 y5
      unfold topiaryref15_Copy.f
      repeat' first
      | (with_reducible exact ih0 _ _ _ _ _ _)
      | (with_reducible exact ih1 _ _ _ _ _ _ _ _ _ _ _ _ _)
      | (with_reducible exact LeO.refl _)
      | (with_reducible exact LeO.none _)
      | (with_reducible refine LeO.ite ?_ ?_)
      | (with_reducible refine LeO.bind ?_ (fun _ => ?_))
      | exact ih0 _ _ _ _ _ _
      | exact ih1 _ _ _ _ _ _ _ _ _ _ _ _ _
      | exact LeO.none _
      | refine LeO.ite ?_ ?_
      | refine LeO.bind ?_ (fun _ => ?_)
    · intro y0 y1 y2 y3 y4 y5 y6 y7 y8 y9 y10 y11 y12
      unfold topiaryref15_Copy.l0
      repeat' first
      | (with_reducible exact ih0 _ _ _ _ _ _)
      | (with_reducible exact ih1 _ _ _ _ _ _ _ _ _ _ _ _ _)
      | (with_reducible exact LeO.refl _)
      | (with_reducible exact LeO.none _)
      | (with_reducible refine LeO.ite ?_ ?_)
      | (with_reducible refine LeO.bind ?_ (fun _ => ?_))
      | exact ih0 _ _ _ _ _ _
      | exact ih1 _ _ _ _ _ _ _ _ _ _ _ _ _
      | exact LeO.none _
      | refine LeO.ite ?_ ?_
      | refine LeO.bind ?_ (fun _ => ?_)
theorem topiaryref15_Copy.mono : ∀ a0 a1 a2 a3 a4 a5 k, LeO (topiaryref15_Copy.f k a0 a1 a2 a3 a4 a5) (topiaryref15_Copy.f (k + 1) a0 a1 a2 a3 a4 a5) := by
  intro a0 a1 a2 a3 a4 a5 k
  obtain ⟨ih0, ih1⟩ := topiaryref15_Copy.mono_l k
  exact ih0 a0 a1 a2 a3 a4 a5
def topiaryref15_Copy.B5 : List Nat := [0, 1, 0, 4, 0, 28, 60, 124, 252, 511, 1023, 2047]
end Go.Proofs.Ytnkbgimihikhoaa.PVt
namespace Go.Proofs.Ytnkbgimihikhoaa.PVt
open Go.RowKit Go.Proofs.YtnkbgimihikhoaaW.PrintWords Go.Proofs.YtnkbgimihikhoaaW.PrintLast Go.Proofs.YtnkbgimihikhoaaW.PrintMore
attribute [local go_sem] max2_int min2_int max_two min_two max_three min_three max_four min_four   -- for this text's walks alone
set_option linter.unusedVariables false
set_option linter.unusedSimpArgs false
attribute [local go_sem high] eqA23
mutual
def topiaryref15_Same.j0 : Nat → Bool → Int → Int → ByteArray → ByteArray → List (S99) → List (S27) → Int → Int → ByteArray → ByteArray → List (S99) → List (S27) → Option (Bool)
  | 0, _, _, _, _, _, _, _, _, _, _, _, _, _ => none
  | k + 1, x41, x156000, x156001, x156002, x156003, x156004, x156005, x157000, x157001, x157002, x157003, x157004, x157005 => if x41 = true then (some false) else (topiaryref15_Same.l0 k 0 x156000 x156001 x156002 x156003 x156004 x156005 x157000 x157001 x157002 x157003 x157004 x157005)
def topiaryref15_Same.l0 : Nat → Int → Int → Int → ByteArray → ByteArray → List (S99) → List (S27) → Int → Int → ByteArray → ByteArray → List (S99) → List (S27) → Option (Bool)
  | 0, _, _, _, _, _, _, _, _, _, _, _, _, _ => none
  | k + 1, x5, x156000, x156001, x156002, x156003, x156004, x156005, x157000, x157001, x157002, x157003, x157004, x157005 => if x5 < (x156005.length : Int) then (if 0 ≤ x5 then (if x5 < (x157005.length : Int) then ((topiaryref15_Same.f k ((rd_T27 x156005 x5).f0.f0) ((rd_T27 x156005 x5).f0.f1) ((rd_T27 x156005 x5).f1) ((rd_T27 x156005 x5).f2) ((rd_T27 x156005 x5).f3) ((rd_T27 x156005 x5).f4) ((rd_T27 x157005 x5).f0.f0) ((rd_T27 x157005 x5).f0.f1) ((rd_T27 x157005 x5).f1) ((rd_T27 x157005 x5).f2) ((rd_T27 x157005 x5).f3) ((rd_T27 x157005 x5).f4)).bind fun t160 => (if t160 = true then (topiaryref15_Same.l0 k (wrap64 (x5 + 1)) x156000 x156001 x156002 x156003 x156004 x156005 x157000 x157001 x157002 x157003 x157004 x157005) else (some false))) else (none)) else (none)) else (some true)
def topiaryref15_Same.f : Nat → Int → Int → ByteArray → ByteArray → List (S99) → List (S27) → Int → Int → ByteArray → ByteArray → List (S99) → List (S27) → Option (Bool)
  | 0, _, _, _, _, _, _, _, _, _, _, _, _ => none
  | k + 1, a0_0, a0_1, a0_2, a0_3, l0_4, l0_5, a1_0, a1_1, a1_2, a1_3, l1_4, l1_5 => if (!(a0_0 == a1_0) || (!(a0_1 == a1_1))) = true then (topiaryref15_Same.j0 k true a0_0 a0_1 a0_2 a0_3 l0_4 l0_5 a1_0 a1_1 a1_2 a1_3 l1_4 l1_5) else (if a0_2.toList = a1_2.toList then (if a0_3.toList = a1_3.toList then ((topiaryref15_SameAttrs.f k l0_4 l1_4).bind fun t157 => (if t157 = true then (topiaryref15_Same.j0 k ((l0_5.length : Int) != (l1_5.length : Int)) a0_0 a0_1 a0_2 a0_3 l0_4 l0_5 a1_0 a1_1 a1_2 a1_3 l1_4 l1_5) else (topiaryref15_Same.j0 k true a0_0 a0_1 a0_2 a0_3 l0_4 l0_5 a1_0 a1_1 a1_2 a1_3 l1_4 l1_5))) else (topiaryref15_Same.j0 k true a0_0 a0_1 a0_2 a0_3 l0_4 l0_5 a1_0 a1_1 a1_2 a1_3 l1_4 l1_5)) else (topiaryref15_Same.j0 k true a0_0 a0_1 a0_2 a0_3 l0_4 l0_5 a1_0 a1_1 a1_2 a1_3 l1_4 l1_5))
end
theorem topiaryref15_Same.mono_l : ∀ k, (∀ y0 y1 y2 y3 y4 y5 y6 y7 y8 y9 y10 y11, LeO (topiaryref15_Same.f k y0 y1 y2 y3 y4 y5 y6 y7 y8 y9 y10 y11) (topiaryref15_Same.f (k + 1) y0 y1 y2 y3 y4 y5 y6 y7 y8 y9 y10 y11)) ∧ (∀ y0 y1 y2 y3 y4 y5 y6 y7 y8 y9 y10 y11 y12, LeO (topiaryref15_Same.j0 k y0 y1 y2 y3 y4 y5 y6 y7 y8 y9 y10 y11 y12) (topiaryref15_Same.j0 (k + 1) y0 y1 y2 y3 y4 y5 y6 y7 y8 y9 y10 y11 y12)) ∧ (∀ y0 y1 y2 y3 y4 y5 y6 y7 y8 y9 y10 y11 y12, LeO (topiaryref15_Same.l0 k y0 y1 y2 y3 y4 y5 y6 y7 y8 y9 y10 y11 y12) (topiaryref15_Same.l0 (k + 1) y0 y1 y2 y3 y4 y5 y6 y7 y8 y9 y10 y11 y12))
  | 0 => ⟨fun _ _ _ _ _ _ _ _ _ _ _ _ r h => by simp [topiaryref15_Same.f] at h, fun _ _ _ _ _ _ _ _ _ _ _ _ _ r h => by simp [topiaryref15_Same.j0] at h, fun _ _ _ _ _ _ _ _ _ _ _ _ _ r h => by simp [topiaryref15_Same.l0] at h⟩
  | k + 1 => by
    obtain ⟨ih0, ih1, ih2⟩ := topiaryref15_Same.mono_l k
    refine ⟨?_, ?_, ?_⟩
    · intro y0 y1 y2 y3 y4 y5 y6 y7 y8 y9 y10 y11
      unfold topiaryref15_Same.f
      repeat' first
      | (with_reducible exact ih0 _ _ _ _ _ _ _ _ _ _ _ _)
      | (with_reducible exact ih1 _ _ _ _ _ _ _ _ _ _ _ _ _)
      | (with_reducible exact ih2 _ _ _ _ _ _ _ _ _ _ _ _ _)
      | (with_reducible exact topiaryref15_SameAttrs.mono _ _ _)
      | (with_reducible exact LeO.refl _)
      | (with_reducible exact LeO.none _)
      | (with_reducible refine LeO.ite ?_ ?_)
      | (with_reducible refine LeO.bind ?_ (fun _ => ?_))
      | exact ih0 _ _ _ _ _ _ _ _ _ _ _ _
      | exact ih1 _ _ _ _ _ _ _ _ _ _ _ _ _
      | exact ih2 _ _ _ _ _ _ _ _ _ _ _ _ _
      | exact topiaryref15_SameAttrs.mono _ _ _
      | exact LeO.none _
      | refine LeO.ite ?_ ?_
      | refine LeO.bind ?_ (fun _ => ?_)
    · intro y0 y1 y2 y3 y4 y5 y6 y7 y8 y9 y10 y11 y12
      unfold topiaryref15_Same.j0
      repeat' first
      | (with_reducible exact ih0 _ _ _ _ _ _ _ _ _ _ _ _)
      | (with_reducible exact ih1 _ _ _ _ _ _ _ _ _ _ _ _ _)
      | (with_reducible exact ih2 _ _ _ _ _ _ _ _ _ _ _ _ _)
      | (with_reducible exact topiaryref15_SameAttrs.mono _ _ _)
      | (with_reducible exact LeO.refl _)
      | (with_reducible exact LeO.none _)
      | (with_reducible refine LeO.ite ?_ ?_)
      | (with_reducible refine LeO.bind ?_ (fun _ => ?_))
      | exact ih0 _ _ _ _ _ _ _ _ _ _ _ _
      | exact ih1 _ _ _ _ _ _ _ _ _ _ _ _ _
      | exact ih2 _ _ _ _ _ _ _ _ _ _ _ _ _
      | exact topiaryref15_SameAttrs.mono _ _ _
      | exact LeO.none _
      | refine LeO.ite ?_ ?_
      | refine LeO.bind ?_ (fun _ => ?_)
    · intro y0 y1 y2 y3 y4 y5 y6 y7 y8 y9 y10 y11 y12
      unfold topiaryref15_Same.l0
      repeat' first
      | (with_reducible exact ih0 _ _ _ _ _ _ _ _ _ _ _ _)
      | (with_reducible exact ih1 _ _ _ _ _ _ _ _ _ _ _ _ _)
      | (with_reducible exact ih2 _ _ _ _ _ _ _ _ _ _ _ _ _)
      | (with_reducible exact topiaryref15_SameAttrs.mono _ _ _)
      | (with_reducible exact LeO.refl _)
      | (with_reducible exact LeO.none _)
      | (with_reducible refine LeO.ite ?_ ?_)
      | (with_reducible refine LeO.bind ?_ (fun _ => ?_))
      | exact ih0 _ _ _ _ _ _ _ _ _ _ _ _
      | exact ih1 _ _ _ _ _ _ _ _ _ _ _ _ _
      | exact ih2 _ _ _ _ _ _ _ _ _ _ _ _ _
      | exact topiaryref15_SameAttrs.mono _ _ _
      | exact LeO.none _
      | refine LeO.ite ?_ ?_
      | refine LeO.bind ?_ (fun _ => ?_)
theorem topiaryref15_Same.mono : ∀ a0 a1 a2 a3 a4 a5 a6 a7 a8 a9 a10 a11 k, LeO (topiaryref15_Same.f k a0 a1 a2 a3 a4 a5 a6 a7 a8 a9 a10 a11) (topiaryref15_Same.f (k + 1) a0 a1 a2 a3 a4 a5 a6 a7 a8 a9 a10 a11) := by
  intro a0 a1 a2 a3 a4 a5 a6 a7 a8 a9 a10 a11 k
  obtain ⟨ih0, ih1, ih2⟩ := topiaryref15_Same.mono_l k
  exact ih0 a0 a1 a2 a3 a4 a5 a6 a7 a8 a9 a10 a11
def topiaryref15_Same.T6 : Bool × List (List Nat × List Nat) := (true, [([], []), ([0], [0]), ([], []), ([1, 2], [1, 2]), ([3], [3]), ([], []), ([5], [5]), ([], []), ([6, 7], [6, 7]), ([8], [8]), ([4, 9], [4, 9]), ([10], [10])])
def topiaryref15_Same.B6 : List Nat := [0, 1, 0, 7, 15, 0, 32, 0, 224, 480, 1023, 2047]
theorem topiaryref15_Same.tab6 : rtab .any (opsOf Try.f14 6) = topiaryref15_Same.T6 := by kernel_rfl
theorem topiaryref15_Same.bits6 : waitsOk topiaryref15_Same.T6.2 topiaryref15_Same.B6 = true := by kernel_rfl
set_option maxHeartbeats 8000000 in
set_option maxRecDepth 100000 in
theorem topiaryref15_Same.calls (k : Nat) : ∀ (a0_0 : Int) (a0_1 : Int) (a0_2 : ByteArray) (a0_3 : ByteArray) (A0_4 : Option Addr) (c0_4 : Nat) (l0_4 : List (S99)) (A0_5 : Option Addr) (c0_5 : Nat) (l0_5 : List (S27)) (a1_0 : Int) (a1_1 : Int) (a1_2 : ByteArray) (a1_3 : ByteArray) (A1_4 : Option Addr) (c1_4 : Nat) (l1_4 : List (S99)) (A1_5 : Option Addr) (c1_5 : Nat) (l1_5 : List (S27)) (r : Bool) (w : World) (hr0_4 : Kd.C k99 w A0_4 l0_4.length l0_4) (hc0_4 : l0_4.length ≤ c0_4) (hr0_5 : Kd.C k27 w A0_5 l0_5.length l0_5) (hc0_5 : l0_5.length ≤ c0_5) (hr1_4 : Kd.C k99 w A1_4 l1_4.length l1_4) (hc1_4 : l1_4.length ≤ c1_4) (hr1_5 : Kd.C k27 w A1_5 l1_5.length l1_5) (hc1_5 : l1_5.length ≤ c1_5) (h : topiaryref15_Same.f k a0_0 a0_1 a0_2 a0_3 l0_4 l0_5 a1_0 a1_1 a1_2 a1_3 l1_4 l1_5 = some r),
    Calls Try.prog 14 #[.agg #[.int .i64 a0_0, .int .i64 a0_1, .string a0_2, .string a0_3, .slice A0_4 l0_4.length c0_4, .slice A0_5 l0_5.length c0_5], .agg #[.int .i64 a1_0, .int .i64 a1_1, .string a1_2, .string a1_3, .slice A1_4 l1_4.length c1_4, .slice A1_5 l1_5.length c1_5]] w fun e w' => e = .returned (.bool r) ∧ Below w.heap.size w w' := by
  induction k using Nat.strongRecOn with
  | _ k ih =>
  intro a0_0 a0_1 a0_2 a0_3 A0_4 c0_4 l0_4 A0_5 c0_5 l0_5 a1_0 a1_1 a1_2 a1_3 A1_4 c1_4 l1_4 A1_5 c1_5 l1_5 r w hr0_4 hc0_4 hr0_5 hc0_5 hr1_4 hc1_4 hr1_5 hc1_5 h
  cases k with
  | zero => exact absurd h (by simp [topiaryref15_Same.f])
  | succ k =>
  simp only [topiaryref15_Same.f] at h
  have hu27 := Try.underlying27
  have hu23 := Try.underlying23
  have HR0_4 := Aside0.mk hr0_4
  have HC0_4 := Aside0.mk hc0_4
  clear hr0_4 hc0_4
  have HR0_5 := Aside0.mk hr0_5
  have HC0_5 := Aside0.mk hc0_5
  clear hr0_5 hc0_5
  have HR1_4 := Aside0.mk hr1_4
  have HC1_4 := Aside0.mk hc1_4
  clear hr1_4 hc1_4
  have HR1_5 := Aside0.mk hr1_5
  have HC1_5 := Aside0.mk hc1_5
  clear hr1_5 hc1_5
  have HB := Aside0.mk (Below.refl w.heap.size w)
  have H : (if (!(a0_0 == a1_0) || (!(a0_1 == a1_1))) = true then (topiaryref15_Same.j0 k true a0_0 a0_1 a0_2 a0_3 l0_4 l0_5 a1_0 a1_1 a1_2 a1_3 l1_4 l1_5) else (if a0_2.toList = a1_2.toList then (if a0_3.toList = a1_3.toList then ((topiaryref15_SameAttrs.f k l0_4 l1_4).bind fun t157 => (if t157 = true then (topiaryref15_Same.j0 k ((l0_5.length : Int) != (l1_5.length : Int)) a0_0 a0_1 a0_2 a0_3 l0_4 l0_5 a1_0 a1_1 a1_2 a1_3 l1_4 l1_5) else (topiaryref15_Same.j0 k true a0_0 a0_1 a0_2 a0_3 l0_4 l0_5 a1_0 a1_1 a1_2 a1_3 l1_4 l1_5))) else (topiaryref15_Same.j0 k true a0_0 a0_1 a0_2 a0_3 l0_4 l0_5 a1_0 a1_1 a1_2 a1_3 l1_4 l1_5)) else (topiaryref15_Same.j0 k true a0_0 a0_1 a0_2 a0_3 l0_4 l0_5 a1_0 a1_1 a1_2 a1_3 l1_4 l1_5))) = some r := h
  clear h
  have HC3 := Aside0.mk H
  clear H
  go_enter Try.func14, Try.ntmps14
  go_upto_region 1 with (first | ((with_reducible refine gate_dst (N := 2) rfl ?_); (try (refine gate_guard (by rfl) ?_; dsimp only)); refine box_event ?hg (N := 2) ?hd (cs := #[.int .i64 a0_0, .int .i64 a0_1, .string a0_2, .string a0_3, .slice A0_4 l0_4.length c0_4, .slice A0_5 l0_5.length c0_5]) (t := 27) ?hr ?_; (case hd => rfl); (case hg => rfl); (case hr => first | (go_simp; done) | (go_simp; rfl)); intro gb155 hg w4 hbox hb; have n0_ := Aside0.mk (below_step (by repeat (first | (with_reducible first | exact HB.out | apply below_alloc | apply pw_below_drewN | apply below_drew1) | exact HB.out)) hb); have n1_ := Aside0.mk (hbox); have n2_ := Aside0.mk ((by rw [hg]; exact (below_size (by repeat (first | (with_reducible first | exact HB.out | apply below_alloc | apply pw_below_drewN | apply below_drew1) | exact HB.out))) : w.heap.size ≤ gb155)); have n3_ := Aside0.mk ((by rw [hg]; exact (below_size (by repeat (first | (with_reducible first | exact HB.out | apply below_alloc | apply pw_below_drewN | apply below_drew1) | exact HB.out))) : w.heap.size ≤ gb155)); clear HB; have HB := n0_; have BK155 := n1_; have GW155 := n2_; have GE155 := n3_; clear n0_ n1_ n2_ n3_; clear hb hbox hg) | ((with_reducible refine gate_dst (N := 3) rfl ?_); (try (refine gate_guard (by rfl) ?_; dsimp only)); refine box_event ?hg (N := 3) ?hd (cs := #[.int .i64 a1_0, .int .i64 a1_1, .string a1_2, .string a1_3, .slice A1_4 l1_4.length c1_4, .slice A1_5 l1_5.length c1_5]) (t := 27) ?hr ?_; (case hd => rfl); (case hg => rfl); (case hr => first | (go_simp; done) | (go_simp; rfl)); intro gb156 hg w5 hbox hb; have n0_ := Aside0.mk (blk_below (g := gb155) (o := .cells #[.int .i64 a0_0, .int .i64 a0_1, .string a0_2, .string a0_3, .slice A0_4 l0_4.length c0_4, .slice A0_5 l0_5.length c0_5] 27 (0, 0)) (by (with_reducible repeat (first | refine blk_drewN ?_ _ | refine blk_drew ?_ | refine blk_alloc ?_ _)); exact BK155.out) hb); have n1_ := Aside0.mk (below_step (by repeat (first | (with_reducible first | exact HB.out | apply below_alloc | apply pw_below_drewN | apply below_drew1 | refine below_set ?_ GE155.out) | exact HB.out)) hb); have n2_ := Aside0.mk (hbox); have n3_ := Aside0.mk ((by rw [hg]; exact (below_size (by repeat (first | (with_reducible first | exact HB.out | apply below_alloc | apply pw_below_drewN | apply below_drew1 | refine below_set ?_ GE155.out) | exact HB.out))) : w.heap.size ≤ gb156)); have n4_ := Aside0.mk ((by rw [hg]; exact (below_size (by repeat (first | (with_reducible first | exact HB.out | apply below_alloc | apply pw_below_drewN | apply below_drew1 | refine below_set ?_ GE155.out) | exact HB.out))) : w.heap.size ≤ gb156)); have n5_ := Aside0.mk ((by rw [hg]; exact Nat.ne_of_lt (blk_lt (g := gb155) (o := .cells #[.int .i64 a0_0, .int .i64 a0_1, .string a0_2, .string a0_3, .slice A0_4 l0_4.length c0_4, .slice A0_5 l0_5.length c0_5] 27 (0, 0)) (by (with_reducible repeat (first | refine blk_drewN ?_ _ | refine blk_drew ?_ | refine blk_alloc ?_ _)); exact BK155.out)) : gb155 ≠ gb156)); have n6_ := Aside0.mk ((by rw [hg]; exact Nat.ne_of_gt (blk_lt (g := gb155) (o := .cells #[.int .i64 a0_0, .int .i64 a0_1, .string a0_2, .string a0_3, .slice A0_4 l0_4.length c0_4, .slice A0_5 l0_5.length c0_5] 27 (0, 0)) (by (with_reducible repeat (first | refine blk_drewN ?_ _ | refine blk_drew ?_ | refine blk_alloc ?_ _)); exact BK155.out)) : gb156 ≠ gb155)); clear BK155; clear HB; have BK155 := n0_; have HB := n1_; have BK156 := n2_; have GW156 := n3_; have GE156 := n4_; have NB155_156 := n5_; have NB156_155 := n6_; clear n0_ n1_ n2_ n3_ n4_ n5_ n6_; clear hb hbox hg))
  (try simp only [Act.put, List.setIfInBounds_toArray, List.set_cons_zero, List.set_cons_succ])
  go_cut [41] (fun v41 wc => ∃ (kq : Nat) (x41_2 : Bool), v41 = .bool x41_2 ∧ Aside0 (topiaryref15_Same.j0 kq x41_2 a0_0 a0_1 a0_2 a0_3 l0_4 l0_5 a1_0 a1_1 a1_2 a1_3 l1_4 l1_5 = some r) ∧ Aside0 (kq ≤ k) ∧ Aside0 (wc.heap[gb155]? = some (.cells #[.int .i64 a0_0, .int .i64 a0_1, .string a0_2, .string a0_3, (.slice A0_4 l0_4.length c0_4), (.slice A0_5 l0_5.length c0_5)] 27 (0, 0))) ∧ Aside0 (wc.heap[gb156]? = some (.cells #[.int .i64 a1_0, .int .i64 a1_1, .string a1_2, .string a1_3, (.slice A1_4 l1_4.length c1_4), (.slice A1_5 l1_5.length c1_5)] 27 (0, 0))) ∧ Aside0 (Below w.heap.size w wc))
  case first =>
    have H := HC3.out
    clear HC3
    by_cases c6 : (!(a0_0 == a1_0) || (!(a0_1 == a1_1))) = true
    · rw [if_pos c6] at H
      have c6b0 : (!(a0_0 == a1_0) || (!(a0_1 == a1_1))) = true := c6
      clear c6
      (first | rw [c6b0] | (simp only [i64_w, i32_w]; rw [c6b0]) | skip)
      have H' := Aside0.mk H
      clear H
      have hnb7 := NB155_156.out
      have hnc7 := NB156_155.out
      have hcz8_0 : w5.cell? ⟨gb155, 0, none⟩ = some (.int .i64 a0_0) := (blk_cell BK155.out 0).trans rfl
      have hcz8_1 : w5.cell? ⟨gb155, 1, none⟩ = some (.int .i64 a0_1) := (blk_cell BK155.out 1).trans rfl
      have hcz8_2 : w5.cell? ⟨gb155, 2, none⟩ = some (.string a0_2) := (blk_cell BK155.out 2).trans rfl
      have hcz8_3 : w5.cell? ⟨gb155, 3, none⟩ = some (.string a0_3) := (blk_cell BK155.out 3).trans rfl
      have hcz8_4 : w5.cell? ⟨gb155, 4, none⟩ = some (.slice A0_4 l0_4.length c0_4) := (blk_cell BK155.out 4).trans rfl
      have hcz8_5 : w5.cell? ⟨gb155, 5, none⟩ = some (.slice A0_5 l0_5.length c0_5) := (blk_cell BK155.out 5).trans rfl
      have hfz8_0 := blk_frozen BK155.out 0
      have hfz8_1 := blk_frozen BK155.out 1
      have hfz8_2 := blk_frozen BK155.out 2
      have hfz8_3 := blk_frozen BK155.out 3
      have hfz8_4 := blk_frozen BK155.out 4
      have hfz8_5 := blk_frozen BK155.out 5
      have hcz9_0 : w5.cell? ⟨gb156, 0, none⟩ = some (.int .i64 a1_0) := (blk_cell BK156.out 0).trans rfl
      have hcz9_1 : w5.cell? ⟨gb156, 1, none⟩ = some (.int .i64 a1_1) := (blk_cell BK156.out 1).trans rfl
      have hcz9_2 : w5.cell? ⟨gb156, 2, none⟩ = some (.string a1_2) := (blk_cell BK156.out 2).trans rfl
      have hcz9_3 : w5.cell? ⟨gb156, 3, none⟩ = some (.string a1_3) := (blk_cell BK156.out 3).trans rfl
      have hcz9_4 : w5.cell? ⟨gb156, 4, none⟩ = some (.slice A1_4 l1_4.length c1_4) := (blk_cell BK156.out 4).trans rfl
      have hcz9_5 : w5.cell? ⟨gb156, 5, none⟩ = some (.slice A1_5 l1_5.length c1_5) := (blk_cell BK156.out 5).trans rfl
      have hfz9_0 := blk_frozen BK156.out 0
      have hfz9_1 := blk_frozen BK156.out 1
      have hfz9_2 := blk_frozen BK156.out 2
      have hfz9_3 := blk_frozen BK156.out 3
      have hfz9_4 := blk_frozen BK156.out 4
      have hfz9_5 := blk_frozen BK156.out 5
      go_wp2
      go_meet
      case rel => exact ⟨_, (true), (by first | rfl | (simp; done) | (simp [*]; done)), H', ⟨by first | omega | exact Nat.le_refl _⟩, ⟨by (with_reducible repeat (first | refine blk_drewN ?_ _ | refine blk_drew ?_ | refine blk_alloc ?_ _)); exact BK155.out⟩, ⟨by (with_reducible repeat (first | refine blk_drewN ?_ _ | refine blk_drew ?_ | refine blk_alloc ?_ _)); exact BK156.out⟩, ⟨by repeat (first | (with_reducible first | exact HB.out | apply below_alloc | apply pw_below_drewN | apply below_drew1 | refine below_set ?_ GE155.out | refine below_set ?_ GE156.out) | exact HB.out)⟩⟩
    · rw [if_neg c6] at H
      have c6b0 : (!(a0_0 == a1_0) || (!(a0_1 == a1_1))) = false := by simpa using c6
      clear c6
      (first | rw [c6b0] | (simp only [i64_w, i32_w]; rw [c6b0]) | skip)
      by_cases c10 : a0_2.toList = a1_2.toList
      · rw [if_pos c10] at H
        have c10b0 : (a0_2.toList == a1_2.toList) = true := beq_iff_eq.mpr c10
        have c10b1 : (a0_2.toList != a1_2.toList) = false := bne_eq_false_iff_eq.mpr c10
        clear c10
        by_cases c11 : a0_3.toList = a1_3.toList
        · rw [if_pos c11] at H
          have c11b0 : (a0_3.toList == a1_3.toList) = true := beq_iff_eq.mpr c11
          have c11b1 : (a0_3.toList != a1_3.toList) = false := bne_eq_false_iff_eq.mpr c11
          clear c11
          replace H := Option.bind_eq_some_iff.mp H
          obtain ⟨t157, A120, H⟩ := H
          replace H : (if t157 = true then (topiaryref15_Same.j0 k ((l0_5.length : Int) != (l1_5.length : Int)) a0_0 a0_1 a0_2 a0_3 l0_4 l0_5 a1_0 a1_1 a1_2 a1_3 l1_4 l1_5) else (topiaryref15_Same.j0 k true a0_0 a0_1 a0_2 a0_3 l0_4 l0_5 a1_0 a1_1 a1_2 a1_3 l1_4 l1_5)) = some r := H
          have A12 := Aside0.mk A120
          clear A120
          by_cases c13 : t157 = true
          · subst c13
            have H1 : (topiaryref15_Same.j0 k ((l0_5.length : Int) != (l1_5.length : Int)) a0_0 a0_1 a0_2 a0_3 l0_4 l0_5 a1_0 a1_1 a1_2 a1_3 l1_4 l1_5) = some r := by rw [if_pos rfl] at H; exact H
            clear H
            have H := H1
            clear H1
            have H' := Aside0.mk H
            clear H
            have hnb14 := NB155_156.out
            have hnc14 := NB156_155.out
            have hcz15_0 : w5.cell? ⟨gb155, 0, none⟩ = some (.int .i64 a0_0) := (blk_cell BK155.out 0).trans rfl
            have hcz15_1 : w5.cell? ⟨gb155, 1, none⟩ = some (.int .i64 a0_1) := (blk_cell BK155.out 1).trans rfl
            have hcz15_2 : w5.cell? ⟨gb155, 2, none⟩ = some (.string a0_2) := (blk_cell BK155.out 2).trans rfl
            have hcz15_3 : w5.cell? ⟨gb155, 3, none⟩ = some (.string a0_3) := (blk_cell BK155.out 3).trans rfl
            have hcz15_4 : w5.cell? ⟨gb155, 4, none⟩ = some (.slice A0_4 l0_4.length c0_4) := (blk_cell BK155.out 4).trans rfl
            have hcz15_5 : w5.cell? ⟨gb155, 5, none⟩ = some (.slice A0_5 l0_5.length c0_5) := (blk_cell BK155.out 5).trans rfl
            have hfz15_0 := blk_frozen BK155.out 0
            have hfz15_1 := blk_frozen BK155.out 1
            have hfz15_2 := blk_frozen BK155.out 2
            have hfz15_3 := blk_frozen BK155.out 3
            have hfz15_4 := blk_frozen BK155.out 4
            have hfz15_5 := blk_frozen BK155.out 5
            have hcz16_0 : w5.cell? ⟨gb156, 0, none⟩ = some (.int .i64 a1_0) := (blk_cell BK156.out 0).trans rfl
            have hcz16_1 : w5.cell? ⟨gb156, 1, none⟩ = some (.int .i64 a1_1) := (blk_cell BK156.out 1).trans rfl
            have hcz16_2 : w5.cell? ⟨gb156, 2, none⟩ = some (.string a1_2) := (blk_cell BK156.out 2).trans rfl
            have hcz16_3 : w5.cell? ⟨gb156, 3, none⟩ = some (.string a1_3) := (blk_cell BK156.out 3).trans rfl
            have hcz16_4 : w5.cell? ⟨gb156, 4, none⟩ = some (.slice A1_4 l1_4.length c1_4) := (blk_cell BK156.out 4).trans rfl
            have hcz16_5 : w5.cell? ⟨gb156, 5, none⟩ = some (.slice A1_5 l1_5.length c1_5) := (blk_cell BK156.out 5).trans rfl
            have hfz16_0 := blk_frozen BK156.out 0
            have hfz16_1 := blk_frozen BK156.out 1
            have hfz16_2 := blk_frozen BK156.out 2
            have hfz16_3 := blk_frozen BK156.out 3
            have hfz16_4 := blk_frozen BK156.out 4
            have hfz16_5 := blk_frozen BK156.out 5
            go_wp2_with (first | (go_at_call 48; (try simp only [← List.length_take, ← List.length_drop]); (with_reducible refine (topiaryref15_SameAttrs.calls k _ _ l0_4 _ _ l1_4 true _ ?side1 ?side2 ?side3 ?side4 A12.out).mono ?_); (case side1 => repeat (first | exact (Kd.C_below HR0_4.out HB.out) | (with_reducible refine Kd.C_alloc ?_ _) | (with_reducible refine Kd.C_drewN ?_ _) | (with_reducible refine Kd.C_drew ?_))); (case side2 => exact HC0_4.out); (case side3 => repeat (first | exact (Kd.C_below HR1_4.out HB.out) | (with_reducible refine Kd.C_alloc ?_ _) | (with_reducible refine Kd.C_drewN ?_ _) | (with_reducible refine Kd.C_drew ?_))); (case side4 => exact HC1_4.out); rintro e w' ⟨rfl, ⟨nd, rfl⟩⟩))
            go_meet
            case rel => exact ⟨_, (((l0_5.length : Int) != (l1_5.length : Int))), (by first | rfl | (simp; done) | (simp [*]; done)), H', ⟨by first | omega | exact Nat.le_refl _⟩, ⟨by (with_reducible repeat (first | refine blk_drewN ?_ _ | refine blk_drew ?_ | refine blk_alloc ?_ _)); exact BK155.out⟩, ⟨by (with_reducible repeat (first | refine blk_drewN ?_ _ | refine blk_drew ?_ | refine blk_alloc ?_ _)); exact BK156.out⟩, ⟨by repeat (first | (with_reducible first | exact HB.out | apply below_alloc | apply pw_below_drewN | apply below_drew1 | refine below_set ?_ GE155.out | refine below_set ?_ GE156.out) | exact HB.out)⟩⟩
          · replace c13 := Bool.eq_false_iff.mpr c13
            subst c13
            have H1 : (topiaryref15_Same.j0 k true a0_0 a0_1 a0_2 a0_3 l0_4 l0_5 a1_0 a1_1 a1_2 a1_3 l1_4 l1_5) = some r := by rw [if_neg (show ¬ (false = true) by decide)] at H; exact H
            clear H
            have H := H1
            clear H1
            have H' := Aside0.mk H
            clear H
            have hnb17 := NB155_156.out
            have hnc17 := NB156_155.out
            have hcz18_0 : w5.cell? ⟨gb155, 0, none⟩ = some (.int .i64 a0_0) := (blk_cell BK155.out 0).trans rfl
            have hcz18_1 : w5.cell? ⟨gb155, 1, none⟩ = some (.int .i64 a0_1) := (blk_cell BK155.out 1).trans rfl
            have hcz18_2 : w5.cell? ⟨gb155, 2, none⟩ = some (.string a0_2) := (blk_cell BK155.out 2).trans rfl
            have hcz18_3 : w5.cell? ⟨gb155, 3, none⟩ = some (.string a0_3) := (blk_cell BK155.out 3).trans rfl
            have hcz18_4 : w5.cell? ⟨gb155, 4, none⟩ = some (.slice A0_4 l0_4.length c0_4) := (blk_cell BK155.out 4).trans rfl
            have hcz18_5 : w5.cell? ⟨gb155, 5, none⟩ = some (.slice A0_5 l0_5.length c0_5) := (blk_cell BK155.out 5).trans rfl
            have hfz18_0 := blk_frozen BK155.out 0
            have hfz18_1 := blk_frozen BK155.out 1
            have hfz18_2 := blk_frozen BK155.out 2
            have hfz18_3 := blk_frozen BK155.out 3
            have hfz18_4 := blk_frozen BK155.out 4
            have hfz18_5 := blk_frozen BK155.out 5
            have hcz19_0 : w5.cell? ⟨gb156, 0, none⟩ = some (.int .i64 a1_0) := (blk_cell BK156.out 0).trans rfl
            have hcz19_1 : w5.cell? ⟨gb156, 1, none⟩ = some (.int .i64 a1_1) := (blk_cell BK156.out 1).trans rfl
            have hcz19_2 : w5.cell? ⟨gb156, 2, none⟩ = some (.string a1_2) := (blk_cell BK156.out 2).trans rfl
            have hcz19_3 : w5.cell? ⟨gb156, 3, none⟩ = some (.string a1_3) := (blk_cell BK156.out 3).trans rfl
            have hcz19_4 : w5.cell? ⟨gb156, 4, none⟩ = some (.slice A1_4 l1_4.length c1_4) := (blk_cell BK156.out 4).trans rfl
            have hcz19_5 : w5.cell? ⟨gb156, 5, none⟩ = some (.slice A1_5 l1_5.length c1_5) := (blk_cell BK156.out 5).trans rfl
            have hfz19_0 := blk_frozen BK156.out 0
            have hfz19_1 := blk_frozen BK156.out 1
            have hfz19_2 := blk_frozen BK156.out 2
            have hfz19_3 := blk_frozen BK156.out 3
            have hfz19_4 := blk_frozen BK156.out 4
            have hfz19_5 := blk_frozen BK156.out 5
            go_wp2_with (first | (go_at_call 48; (try simp only [← List.length_take, ← List.length_drop]); (with_reducible refine (topiaryref15_SameAttrs.calls k _ _ l0_4 _ _ l1_4 false _ ?side1 ?side2 ?side3 ?side4 A12.out).mono ?_); (case side1 => repeat (first | exact (Kd.C_below HR0_4.out HB.out) | (with_reducible refine Kd.C_alloc ?_ _) | (with_reducible refine Kd.C_drewN ?_ _) | (with_reducible refine Kd.C_drew ?_))); (case side2 => exact HC0_4.out); (case side3 => repeat (first | exact (Kd.C_below HR1_4.out HB.out) | (with_reducible refine Kd.C_alloc ?_ _) | (with_reducible refine Kd.C_drewN ?_ _) | (with_reducible refine Kd.C_drew ?_))); (case side4 => exact HC1_4.out); rintro e w' ⟨rfl, ⟨nd, rfl⟩⟩))
            go_meet
            case rel => exact ⟨_, (true), (by first | rfl | (simp; done) | (simp [*]; done)), H', ⟨by first | omega | exact Nat.le_refl _⟩, ⟨by (with_reducible repeat (first | refine blk_drewN ?_ _ | refine blk_drew ?_ | refine blk_alloc ?_ _)); exact BK155.out⟩, ⟨by (with_reducible repeat (first | refine blk_drewN ?_ _ | refine blk_drew ?_ | refine blk_alloc ?_ _)); exact BK156.out⟩, ⟨by repeat (first | (with_reducible first | exact HB.out | apply below_alloc | apply pw_below_drewN | apply below_drew1 | refine below_set ?_ GE155.out | refine below_set ?_ GE156.out) | exact HB.out)⟩⟩
        · rw [if_neg c11] at H
          have c11b0 : (a0_3.toList == a1_3.toList) = false := beq_eq_false_iff_ne.mpr c11
          have c11b1 : (a0_3.toList != a1_3.toList) = true := bne_iff_ne.mpr c11
          have H' := Aside0.mk H
          clear H
          have hnb20 := NB155_156.out
          have hnc20 := NB156_155.out
          have hcz21_0 : w5.cell? ⟨gb155, 0, none⟩ = some (.int .i64 a0_0) := (blk_cell BK155.out 0).trans rfl
          have hcz21_1 : w5.cell? ⟨gb155, 1, none⟩ = some (.int .i64 a0_1) := (blk_cell BK155.out 1).trans rfl
          have hcz21_2 : w5.cell? ⟨gb155, 2, none⟩ = some (.string a0_2) := (blk_cell BK155.out 2).trans rfl
          have hcz21_3 : w5.cell? ⟨gb155, 3, none⟩ = some (.string a0_3) := (blk_cell BK155.out 3).trans rfl
          have hcz21_4 : w5.cell? ⟨gb155, 4, none⟩ = some (.slice A0_4 l0_4.length c0_4) := (blk_cell BK155.out 4).trans rfl
          have hcz21_5 : w5.cell? ⟨gb155, 5, none⟩ = some (.slice A0_5 l0_5.length c0_5) := (blk_cell BK155.out 5).trans rfl
          have hfz21_0 := blk_frozen BK155.out 0
          have hfz21_1 := blk_frozen BK155.out 1
          have hfz21_2 := blk_frozen BK155.out 2
          have hfz21_3 := blk_frozen BK155.out 3
          have hfz21_4 := blk_frozen BK155.out 4
          have hfz21_5 := blk_frozen BK155.out 5
          have hcz22_0 : w5.cell? ⟨gb156, 0, none⟩ = some (.int .i64 a1_0) := (blk_cell BK156.out 0).trans rfl
          have hcz22_1 : w5.cell? ⟨gb156, 1, none⟩ = some (.int .i64 a1_1) := (blk_cell BK156.out 1).trans rfl
          have hcz22_2 : w5.cell? ⟨gb156, 2, none⟩ = some (.string a1_2) := (blk_cell BK156.out 2).trans rfl
          have hcz22_3 : w5.cell? ⟨gb156, 3, none⟩ = some (.string a1_3) := (blk_cell BK156.out 3).trans rfl
          have hcz22_4 : w5.cell? ⟨gb156, 4, none⟩ = some (.slice A1_4 l1_4.length c1_4) := (blk_cell BK156.out 4).trans rfl
          have hcz22_5 : w5.cell? ⟨gb156, 5, none⟩ = some (.slice A1_5 l1_5.length c1_5) := (blk_cell BK156.out 5).trans rfl
          have hfz22_0 := blk_frozen BK156.out 0
          have hfz22_1 := blk_frozen BK156.out 1
          have hfz22_2 := blk_frozen BK156.out 2
          have hfz22_3 := blk_frozen BK156.out 3
          have hfz22_4 := blk_frozen BK156.out 4
          have hfz22_5 := blk_frozen BK156.out 5
          go_wp2
          go_meet
          case rel => exact ⟨_, (true), (by first | rfl | (simp; done) | (simp [*]; done)), H', ⟨by first | omega | exact Nat.le_refl _⟩, ⟨by (with_reducible repeat (first | refine blk_drewN ?_ _ | refine blk_drew ?_ | refine blk_alloc ?_ _)); exact BK155.out⟩, ⟨by (with_reducible repeat (first | refine blk_drewN ?_ _ | refine blk_drew ?_ | refine blk_alloc ?_ _)); exact BK156.out⟩, ⟨by repeat (first | (with_reducible first | exact HB.out | apply below_alloc | apply pw_below_drewN | apply below_drew1 | refine below_set ?_ GE155.out | refine below_set ?_ GE156.out) | exact HB.out)⟩⟩
      · rw [if_neg c10] at H
        have c10b0 : (a0_2.toList == a1_2.toList) = false := beq_eq_false_iff_ne.mpr c10
        have c10b1 : (a0_2.toList != a1_2.toList) = true := bne_iff_ne.mpr c10
        have H' := Aside0.mk H
        clear H
        have hnb23 := NB155_156.out
        have hnc23 := NB156_155.out
        have hcz24_0 : w5.cell? ⟨gb155, 0, none⟩ = some (.int .i64 a0_0) := (blk_cell BK155.out 0).trans rfl
        have hcz24_1 : w5.cell? ⟨gb155, 1, none⟩ = some (.int .i64 a0_1) := (blk_cell BK155.out 1).trans rfl
        have hcz24_2 : w5.cell? ⟨gb155, 2, none⟩ = some (.string a0_2) := (blk_cell BK155.out 2).trans rfl
        have hcz24_3 : w5.cell? ⟨gb155, 3, none⟩ = some (.string a0_3) := (blk_cell BK155.out 3).trans rfl
        have hcz24_4 : w5.cell? ⟨gb155, 4, none⟩ = some (.slice A0_4 l0_4.length c0_4) := (blk_cell BK155.out 4).trans rfl
        have hcz24_5 : w5.cell? ⟨gb155, 5, none⟩ = some (.slice A0_5 l0_5.length c0_5) := (blk_cell BK155.out 5).trans rfl
        have hfz24_0 := blk_frozen BK155.out 0
        have hfz24_1 := blk_frozen BK155.out 1
        have hfz24_2 := blk_frozen BK155.out 2
        have hfz24_3 := blk_frozen BK155.out 3
        have hfz24_4 := blk_frozen BK155.out 4
        have hfz24_5 := blk_frozen BK155.out 5
        have hcz25_0 : w5.cell? ⟨gb156, 0, none⟩ = some (.int .i64 a1_0) := (blk_cell BK156.out 0).trans rfl
        have hcz25_1 : w5.cell? ⟨gb156, 1, none⟩ = some (.int .i64 a1_1) := (blk_cell BK156.out 1).trans rfl
        have hcz25_2 : w5.cell? ⟨gb156, 2, none⟩ = some (.string a1_2) := (blk_cell BK156.out 2).trans rfl
        have hcz25_3 : w5.cell? ⟨gb156, 3, none⟩ = some (.string a1_3) := (blk_cell BK156.out 3).trans rfl
        have hcz25_4 : w5.cell? ⟨gb156, 4, none⟩ = some (.slice A1_4 l1_4.length c1_4) := (blk_cell BK156.out 4).trans rfl
        have hcz25_5 : w5.cell? ⟨gb156, 5, none⟩ = some (.slice A1_5 l1_5.length c1_5) := (blk_cell BK156.out 5).trans rfl
        have hfz25_0 := blk_frozen BK156.out 0
        have hfz25_1 := blk_frozen BK156.out 1
        have hfz25_2 := blk_frozen BK156.out 2
        have hfz25_3 := blk_frozen BK156.out 3
        have hfz25_4 := blk_frozen BK156.out 4
        have hfz25_5 := blk_frozen BK156.out 5
        go_wp2
        go_meet
        case rel => exact ⟨_, (true), (by first | rfl | (simp; done) | (simp [*]; done)), H', ⟨by first | omega | exact Nat.le_refl _⟩, ⟨by (with_reducible repeat (first | refine blk_drewN ?_ _ | refine blk_drew ?_ | refine blk_alloc ?_ _)); exact BK155.out⟩, ⟨by (with_reducible repeat (first | refine blk_drewN ?_ _ | refine blk_drew ?_ | refine blk_alloc ?_ _)); exact BK156.out⟩, ⟨by repeat (first | (with_reducible first | exact HB.out | apply below_alloc | apply pw_below_drewN | apply below_drew1 | refine below_set ?_ GE155.out | refine below_set ?_ GE156.out) | exact HB.out)⟩⟩
  case rest =>
    clear HC3
    try clear c1
    try clear c2
    try clear p2
    try clear c6
    try clear c6b0
    try clear c7
    try clear c10
    try clear c10b0
    try clear c10b1
    try clear c11
    try clear c11b0
    try clear c11b1
    try clear c13
    try clear c14
    try clear c17
    try clear c20
    try clear c23
    try clear hcz15_0
    try clear hcz15_1
    try clear hcz15_2
    try clear hcz15_3
    try clear hcz15_4
    try clear hcz15_5
    try clear hcz16_0
    try clear hcz16_1
    try clear hcz16_2
    try clear hcz16_3
    try clear hcz16_4
    try clear hcz16_5
    try clear hcz18_0
    try clear hcz18_1
    try clear hcz18_2
    try clear hcz18_3
    try clear hcz18_4
    try clear hcz18_5
    try clear hcz19_0
    try clear hcz19_1
    try clear hcz19_2
    try clear hcz19_3
    try clear hcz19_4
    try clear hcz19_5
    try clear hcz21_0
    try clear hcz21_1
    try clear hcz21_2
    try clear hcz21_3
    try clear hcz21_4
    try clear hcz21_5
    try clear hcz22_0
    try clear hcz22_1
    try clear hcz22_2
    try clear hcz22_3
    try clear hcz22_4
    try clear hcz22_5
    try clear hcz24_0
    try clear hcz24_1
    try clear hcz24_2
    try clear hcz24_3
    try clear hcz24_4
    try clear hcz24_5
    try clear hcz25_0
    try clear hcz25_1
    try clear hcz25_2
    try clear hcz25_3
    try clear hcz25_4
    try clear hcz25_5
    try clear hcz8_0
    try clear hcz8_1
    try clear hcz8_2
    try clear hcz8_3
    try clear hcz8_4
    try clear hcz8_5
    try clear hcz9_0
    try clear hcz9_1
    try clear hcz9_2
    try clear hcz9_3
    try clear hcz9_4
    try clear hcz9_5
    try clear hfz15_0
    try clear hfz15_1
    try clear hfz15_2
    try clear hfz15_3
    try clear hfz15_4
    try clear hfz15_5
    try clear hfz16_0
    try clear hfz16_1
    try clear hfz16_2
    try clear hfz16_3
    try clear hfz16_4
    try clear hfz16_5
    try clear hfz18_0
    try clear hfz18_1
    try clear hfz18_2
    try clear hfz18_3
    try clear hfz18_4
    try clear hfz18_5
    try clear hfz19_0
    try clear hfz19_1
    try clear hfz19_2
    try clear hfz19_3
    try clear hfz19_4
    try clear hfz19_5
    try clear hfz21_0
    try clear hfz21_1
    try clear hfz21_2
    try clear hfz21_3
    try clear hfz21_4
    try clear hfz21_5
    try clear hfz22_0
    try clear hfz22_1
    try clear hfz22_2
    try clear hfz22_3
    try clear hfz22_4
    try clear hfz22_5
    try clear hfz24_0
    try clear hfz24_1
    try clear hfz24_2
    try clear hfz24_3
    try clear hfz24_4
    try clear hfz24_5
    try clear hfz25_0
    try clear hfz25_1
    try clear hfz25_2
    try clear hfz25_3
    try clear hfz25_4
    try clear hfz25_5
    try clear hfz8_0
    try clear hfz8_1
    try clear hfz8_2
    try clear hfz8_3
    try clear hfz8_4
    try clear hfz8_5
    try clear hfz9_0
    try clear hfz9_1
    try clear hfz9_2
    try clear hfz9_3
    try clear hfz9_4
    try clear hfz9_5
    obtain ⟨kq, x41_2, rfl, HA, HJ2, BK155, BK156, HB⟩ := hcut
    cases kq with
    | zero => exact absurd HA.out (by simp [topiaryref15_Same.j0])
    | succ kj2 =>
      have H := HA.out
      clear HA
      simp only [topiaryref15_Same.j0] at H
      by_cases c26 : x41_2 = true
      · subst c26
        have H1 : (some false) = some r := by rw [if_pos rfl] at H; exact H
        clear H
        have H := H1
        clear H1
        obtain rfl := Option.some.inj H
        go_wp2
        go_ret
        exact ⟨by first | rfl | (simp [errW_none, errW_some] <;> rfl) | (simp [*, errW_none, errW_some] <;> rfl), by repeat (first | (with_reducible first | exact HB.out | apply below_alloc | apply pw_below_drewN | apply below_drew1 | refine below_set ?_ GE155.out | refine below_set ?_ GE156.out) | exact HB.out)⟩
      · replace c26 := Bool.eq_false_iff.mpr c26
        subst c26
        have H1 : (topiaryref15_Same.l0 kj2 0 a0_0 a0_1 a0_2 a0_3 l0_4 l0_5 a1_0 a1_1 a1_2 a1_3 l1_4 l1_5) = some r := by rw [if_neg (show ¬ (false = true) by decide)] at H; exact H
        clear H
        have H := H1
        clear H1
        have H' := Aside0.mk H
        clear H
        go_wp2
        go_loopg [5] kj2 (fun kq v5 w' => ∃ (x5_2 : Int), v5 = .int .i64 x5_2 ∧ Aside0 (topiaryref15_Same.l0 kq x5_2 a0_0 a0_1 a0_2 a0_3 l0_4 l0_5 a1_0 a1_1 a1_2 a1_3 l1_4 l1_5 = some r) ∧ Aside0 (kq ≤ kj2) ∧ Aside0 (w'.heap[gb155]? = some (.cells #[.int .i64 a0_0, .int .i64 a0_1, .string a0_2, .string a0_3, (.slice A0_4 l0_4.length c0_4), (.slice A0_5 l0_5.length c0_5)] 27 (0, 0))) ∧ Aside0 (w'.heap[gb156]? = some (.cells #[.int .i64 a1_0, .int .i64 a1_1, .string a1_2, .string a1_3, (.slice A1_4 l1_4.length c1_4), (.slice A1_5 l1_5.length c1_5)] 27 (0, 0))) ∧ Aside0 (Below w.heap.size w w'))
        case atStart => exact ⟨(0), (by first | rfl | (simp; done) | (simp [*]; done)), H', ⟨Nat.le_refl _⟩, ⟨by (with_reducible repeat (first | refine blk_drewN ?_ _ | refine blk_drew ?_ | refine blk_alloc ?_ _)); exact BK155.out⟩, ⟨by (with_reducible repeat (first | refine blk_drewN ?_ _ | refine blk_drew ?_ | refine blk_alloc ?_ _)); exact BK156.out⟩, ⟨by repeat (first | (with_reducible first | exact HB.out | apply below_alloc | apply pw_below_drewN | apply below_drew1 | refine below_set ?_ GE155.out | refine below_set ?_ GE156.out) | exact HB.out)⟩⟩
        case round =>
          clear H'
          try clear c1
          try clear c2
          try clear p2
          try clear c6
          try clear c6b0
          try clear c7
          try clear c10
          try clear c10b0
          try clear c10b1
          try clear c11
          try clear c11b0
          try clear c11b1
          try clear c13
          try clear c14
          try clear c17
          try clear c20
          try clear c23
          try clear c26
          try clear hcz15_0
          try clear hcz15_1
          try clear hcz15_2
          try clear hcz15_3
          try clear hcz15_4
          try clear hcz15_5
          try clear hcz16_0
          try clear hcz16_1
          try clear hcz16_2
          try clear hcz16_3
          try clear hcz16_4
          try clear hcz16_5
          try clear hcz18_0
          try clear hcz18_1
          try clear hcz18_2
          try clear hcz18_3
          try clear hcz18_4
          try clear hcz18_5
          try clear hcz19_0
          try clear hcz19_1
          try clear hcz19_2
          try clear hcz19_3
          try clear hcz19_4
          try clear hcz19_5
          try clear hcz21_0
          try clear hcz21_1
          try clear hcz21_2
          try clear hcz21_3
          try clear hcz21_4
          try clear hcz21_5
          try clear hcz22_0
          try clear hcz22_1
          try clear hcz22_2
          try clear hcz22_3
          try clear hcz22_4
          try clear hcz22_5
          try clear hcz24_0
          try clear hcz24_1
          try clear hcz24_2
          try clear hcz24_3
          try clear hcz24_4
          try clear hcz24_5
          try clear hcz25_0
          try clear hcz25_1
          try clear hcz25_2
          try clear hcz25_3
          try clear hcz25_4
          try clear hcz25_5
          try clear hcz8_0
          try clear hcz8_1
          try clear hcz8_2
          try clear hcz8_3
          try clear hcz8_4
          try clear hcz8_5
          try clear hcz9_0
          try clear hcz9_1
          try clear hcz9_2
          try clear hcz9_3
          try clear hcz9_4
          try clear hcz9_5
          try clear hfz15_0
          try clear hfz15_1
          try clear hfz15_2
          try clear hfz15_3
          try clear hfz15_4
          try clear hfz15_5
          try clear hfz16_0
          try clear hfz16_1
          try clear hfz16_2
          try clear hfz16_3
          try clear hfz16_4
          try clear hfz16_5
          try clear hfz18_0
          try clear hfz18_1
          try clear hfz18_2
          try clear hfz18_3
          try clear hfz18_4
          try clear hfz18_5
          try clear hfz19_0
          try clear hfz19_1
          try clear hfz19_2
          try clear hfz19_3
          try clear hfz19_4
          try clear hfz19_5
          try clear hfz21_0
          try clear hfz21_1
          try clear hfz21_2
          try clear hfz21_3
          try clear hfz21_4
          try clear hfz21_5
          try clear hfz22_0
          try clear hfz22_1
          try clear hfz22_2
          try clear hfz22_3
          try clear hfz22_4
          try clear hfz22_5
          try clear hfz24_0
          try clear hfz24_1
          try clear hfz24_2
          try clear hfz24_3
          try clear hfz24_4
          try clear hfz24_5
          try clear hfz25_0
          try clear hfz25_1
          try clear hfz25_2
          try clear hfz25_3
          try clear hfz25_4
          try clear hfz25_5
          try clear hfz8_0
          try clear hfz8_1
          try clear hfz8_2
          try clear hfz8_3
          try clear hfz8_4
          try clear hfz8_5
          try clear hfz9_0
          try clear hfz9_1
          try clear hfz9_2
          try clear hfz9_3
          try clear hfz9_4
          try clear hfz9_5
          try clear p2
          obtain ⟨x5_2, rfl, HA, HK2, BK155, BK156, HB⟩ := hrel
          cases gk with
          | zero => exact absurd HA.out (by simp [topiaryref15_Same.l0])
          | succ k2 =>
            have H := HA.out
            clear HA
            simp only [topiaryref15_Same.l0] at H
            by_cases c27 : x5_2 < (l0_5.length : Int)
            · rw [if_pos c27] at H
              have c27b0 : decide (x5_2 < (l0_5.length : Int)) = true := decide_eq_true c27
              clear c27
              by_cases c28 : 0 ≤ x5_2
              · rw [if_pos c28] at H
                have c28b0 : decide (0 ≤ x5_2) = true := decide_eq_true c28
                clear c28
                by_cases c29 : x5_2 < (l1_5.length : Int)
                · rw [if_pos c29] at H
                  have c29b0 : decide (x5_2 < (l1_5.length : Int)) = true := decide_eq_true c29
                  clear c29
                  replace H := Option.bind_eq_some_iff.mp H
                  obtain ⟨t160, A300, H⟩ := H
                  replace H : (if t160 = true then (topiaryref15_Same.l0 k2 (wrap64 (x5_2 + 1)) a0_0 a0_1 a0_2 a0_3 l0_4 l0_5 a1_0 a1_1 a1_2 a1_3 l1_4 l1_5) else (some false)) = some r := H
                  have A30 := Aside0.mk A300
                  clear A300
                  by_cases c31 : t160 = true
                  · subst c31
                    have H1 : (topiaryref15_Same.l0 k2 (wrap64 (x5_2 + 1)) a0_0 a0_1 a0_2 a0_3 l0_4 l0_5 a1_0 a1_1 a1_2 a1_3 l1_4 l1_5) = some r := by rw [if_pos rfl] at H; exact H
                    clear H
                    have H := H1
                    clear H1
                    have H' := Aside0.mk H
                    clear H
                    have hnb32 := NB155_156.out
                    have hnc32 := NB156_155.out
                    have hcz33_0 : wr.cell? ⟨gb155, 0, none⟩ = some (.int .i64 a0_0) := (blk_cell BK155.out 0).trans rfl
                    have hcz33_1 : wr.cell? ⟨gb155, 1, none⟩ = some (.int .i64 a0_1) := (blk_cell BK155.out 1).trans rfl
                    have hcz33_2 : wr.cell? ⟨gb155, 2, none⟩ = some (.string a0_2) := (blk_cell BK155.out 2).trans rfl
                    have hcz33_3 : wr.cell? ⟨gb155, 3, none⟩ = some (.string a0_3) := (blk_cell BK155.out 3).trans rfl
                    have hcz33_4 : wr.cell? ⟨gb155, 4, none⟩ = some (.slice A0_4 l0_4.length c0_4) := (blk_cell BK155.out 4).trans rfl
                    have hcz33_5 : wr.cell? ⟨gb155, 5, none⟩ = some (.slice A0_5 l0_5.length c0_5) := (blk_cell BK155.out 5).trans rfl
                    have hfz33_0 := blk_frozen BK155.out 0
                    have hfz33_1 := blk_frozen BK155.out 1
                    have hfz33_2 := blk_frozen BK155.out 2
                    have hfz33_3 := blk_frozen BK155.out 3
                    have hfz33_4 := blk_frozen BK155.out 4
                    have hfz33_5 := blk_frozen BK155.out 5
                    try go_wp2
                    have n0_ := Aside0.mk (blk_drew BK155.out)
                    have n1_ := Aside0.mk (blk_drew BK156.out)
                    have n2_ := Aside0.mk (below_drew1 HB.out)
                    clear BK155
                    clear BK156
                    clear HB
                    have BK155 := n0_
                    have BK156 := n1_
                    have HB := n2_
                    clear n0_ n1_ n2_
                    have p158 : 0 ≤ (x5_2 : Int) := of_decide_eq_true (by first | (with_reducible assumption) | assumption)
                    have q158 : x5_2 < (l0_5.length : Int) := of_decide_eq_true (by first | (with_reducible assumption) | assumption)
                    obtain ⟨ad158, A158_4, c158_4, A158_5, c158_5, e158, hx158_0, hx158_1, hx158_2, hx158_3, hx158_4, hx158_5, hl158_4, hi158_4, hl158_5, hi158_5⟩ := at_T27 HR0_5.out x5_2 p158 q158
                    have hw158_5 := hx158_5
                    have hw158_4 := hx158_4
                    have hw158_3 := hx158_3
                    have hw158_2 := hx158_2
                    have hw158_1 := hx158_1
                    have hw158_0 := hx158_0
                    cases e158
                    replace hx158_0 := (HB.out.cell (World.block_lt_of_cell? w _ hx158_0)).trans hx158_0
                    replace hx158_1 := (HB.out.cell (World.block_lt_of_cell? w _ hx158_1)).trans hx158_1
                    replace hx158_2 := (HB.out.cell (World.block_lt_of_cell? w _ hx158_2)).trans hx158_2
                    replace hx158_3 := (HB.out.cell (World.block_lt_of_cell? w _ hx158_3)).trans hx158_3
                    replace hx158_4 := (HB.out.cell (World.block_lt_of_cell? w _ hx158_4)).trans hx158_4
                    replace hx158_5 := (HB.out.cell (World.block_lt_of_cell? w _ hx158_5)).trans hx158_5
                    have HR158_4 := Aside0.mk hi158_4
                    have HC158_4 := Aside0.mk hl158_4
                    clear hi158_4 hl158_4
                    have HR158_5 := Aside0.mk hi158_5
                    have HC158_5 := Aside0.mk hl158_5
                    clear hi158_5 hl158_5
                    replace p158 := eq_true p158
                    replace q158 := eq_true q158
                    have p159 : 0 ≤ (x5_2 : Int) := of_decide_eq_true (by first | (with_reducible assumption) | assumption)
                    have q159 : x5_2 < (l1_5.length : Int) := of_decide_eq_true (by first | (with_reducible assumption) | assumption)
                    obtain ⟨ad159, A159_4, c159_4, A159_5, c159_5, e159, hx159_0, hx159_1, hx159_2, hx159_3, hx159_4, hx159_5, hl159_4, hi159_4, hl159_5, hi159_5⟩ := at_T27 HR1_5.out x5_2 p159 q159
                    have hw159_5 := hx159_5
                    have hw159_4 := hx159_4
                    have hw159_3 := hx159_3
                    have hw159_2 := hx159_2
                    have hw159_1 := hx159_1
                    have hw159_0 := hx159_0
                    cases e159
                    replace hx159_0 := (HB.out.cell (World.block_lt_of_cell? w _ hx159_0)).trans hx159_0
                    replace hx159_1 := (HB.out.cell (World.block_lt_of_cell? w _ hx159_1)).trans hx159_1
                    replace hx159_2 := (HB.out.cell (World.block_lt_of_cell? w _ hx159_2)).trans hx159_2
                    replace hx159_3 := (HB.out.cell (World.block_lt_of_cell? w _ hx159_3)).trans hx159_3
                    replace hx159_4 := (HB.out.cell (World.block_lt_of_cell? w _ hx159_4)).trans hx159_4
                    replace hx159_5 := (HB.out.cell (World.block_lt_of_cell? w _ hx159_5)).trans hx159_5
                    have HR159_4 := Aside0.mk hi159_4
                    have HC159_4 := Aside0.mk hl159_4
                    clear hi159_4 hl159_4
                    have HR159_5 := Aside0.mk hi159_5
                    have HC159_5 := Aside0.mk hl159_5
                    clear hi159_5 hl159_5
                    replace p159 := eq_true p159
                    replace q159 := eq_true q159
                    refine start_ (n := 12) (S := fun w' => w'.cell? ⟨gb155, 0, none⟩ = some (.int .i64 a0_0) ∧ w'.cell? ⟨gb155, 1, none⟩ = some (.int .i64 a0_1) ∧ w'.cell? ⟨gb155, 2, none⟩ = some (.string a0_2) ∧ w'.cell? ⟨gb155, 3, none⟩ = some (.string a0_3) ∧ w'.cell? ⟨gb155, 4, none⟩ = some (.slice A0_4 l0_4.length c0_4) ∧ w'.cell? ⟨gb155, 5, none⟩ = some (.slice (some ad158) l0_5.length c0_5) ∧ w'.cell? ⟨gb156, 0, none⟩ = some (.int .i64 a1_0) ∧ w'.cell? ⟨gb156, 1, none⟩ = some (.int .i64 a1_1) ∧ w'.cell? ⟨gb156, 2, none⟩ = some (.string a1_2) ∧ w'.cell? ⟨gb156, 3, none⟩ = some (.string a1_3) ∧ w'.cell? ⟨gb156, 4, none⟩ = some (.slice A1_4 l1_4.length c1_4) ∧ w'.cell? ⟨gb156, 5, none⟩ = some (.slice (some ad159) l1_5.length c1_5) ∧ w'.cell? (ad158.add ((x5_2).toNat * 6)) = some (.int .i64 ((rd_T27 l0_5 x5_2).f0.f0)) ∧ w'.cell? ⟨(ad158.add ((x5_2).toNat * 6)).block, (ad158.add ((x5_2).toNat * 6)).off + 1, none⟩ = some (.int .i64 ((rd_T27 l0_5 x5_2).f0.f1)) ∧ w'.cell? ⟨(ad158.add ((x5_2).toNat * 6)).block, (ad158.add ((x5_2).toNat * 6)).off + 2, none⟩ = some (.string ((rd_T27 l0_5 x5_2).f1)) ∧ w'.cell? ⟨(ad158.add ((x5_2).toNat * 6)).block, (ad158.add ((x5_2).toNat * 6)).off + 3, none⟩ = some (.string ((rd_T27 l0_5 x5_2).f2)) ∧ w'.cell? ⟨(ad158.add ((x5_2).toNat * 6)).block, (ad158.add ((x5_2).toNat * 6)).off + 4, none⟩ = some (.slice A158_4 ((rd_T27 l0_5 x5_2).f3).length c158_4) ∧ w'.cell? ⟨(ad158.add ((x5_2).toNat * 6)).block, (ad158.add ((x5_2).toNat * 6)).off + 5, none⟩ = some (.slice A158_5 ((rd_T27 l0_5 x5_2).f4).length c158_5) ∧ w'.cell? (ad159.add ((x5_2).toNat * 6)) = some (.int .i64 ((rd_T27 l1_5 x5_2).f0.f0)) ∧ w'.cell? ⟨(ad159.add ((x5_2).toNat * 6)).block, (ad159.add ((x5_2).toNat * 6)).off + 1, none⟩ = some (.int .i64 ((rd_T27 l1_5 x5_2).f0.f1)) ∧ w'.cell? ⟨(ad159.add ((x5_2).toNat * 6)).block, (ad159.add ((x5_2).toNat * 6)).off + 2, none⟩ = some (.string ((rd_T27 l1_5 x5_2).f1)) ∧ w'.cell? ⟨(ad159.add ((x5_2).toNat * 6)).block, (ad159.add ((x5_2).toNat * 6)).off + 3, none⟩ = some (.string ((rd_T27 l1_5 x5_2).f2)) ∧ w'.cell? ⟨(ad159.add ((x5_2).toNat * 6)).block, (ad159.add ((x5_2).toNat * 6)).off + 4, none⟩ = some (.slice A159_4 ((rd_T27 l1_5 x5_2).f3).length c159_4) ∧ w'.cell? ⟨(ad159.add ((x5_2).toNat * 6)).block, (ad159.add ((x5_2).toNat * 6)).off + 5, none⟩ = some (.slice A159_5 ((rd_T27 l1_5 x5_2).f4).length c159_5)) (ds := []) #[false, false, false, false, false, false, false, false, false, false, false, false] (by kernel_rfl) rfl rfl ⟨(blk_cell BK155.out 0).trans rfl, (blk_cell BK155.out 1).trans rfl, (blk_cell BK155.out 2).trans rfl, (blk_cell BK155.out 3).trans rfl, (blk_cell BK155.out 4).trans rfl, (blk_cell BK155.out 5).trans rfl, (blk_cell BK156.out 0).trans rfl, (blk_cell BK156.out 1).trans rfl, (blk_cell BK156.out 2).trans rfl, (blk_cell BK156.out 3).trans rfl, (blk_cell BK156.out 4).trans rfl, (blk_cell BK156.out 5).trans rfl, ((HB.out.cell (World.block_lt_of_cell? w _ hw158_0)).trans hw158_0), ((HB.out.cell (World.block_lt_of_cell? w _ hw158_1)).trans hw158_1), ((HB.out.cell (World.block_lt_of_cell? w _ hw158_2)).trans hw158_2), ((HB.out.cell (World.block_lt_of_cell? w _ hw158_3)).trans hw158_3), ((HB.out.cell (World.block_lt_of_cell? w _ hw158_4)).trans hw158_4), ((HB.out.cell (World.block_lt_of_cell? w _ hw158_5)).trans hw158_5), ((HB.out.cell (World.block_lt_of_cell? w _ hw159_0)).trans hw159_0), ((HB.out.cell (World.block_lt_of_cell? w _ hw159_1)).trans hw159_1), ((HB.out.cell (World.block_lt_of_cell? w _ hw159_2)).trans hw159_2), ((HB.out.cell (World.block_lt_of_cell? w _ hw159_3)).trans hw159_3), ((HB.out.cell (World.block_lt_of_cell? w _ hw159_4)).trans hw159_4), ((HB.out.cell (World.block_lt_of_cell? w _ hw159_5)).trans hw159_5)⟩ (fun hHeld => ?_); refine with_tabW topiaryref15_Same.tab6 topiaryref15_Same.bits6 (fun HT_ HW_ => ?_)
                    generalize wr.drew = w34 at BK155 BK156 HB HR158_4 HR158_5 HR159_4 HR159_5 hx158_0 hx158_1 hx158_2 hx158_3 hx158_4 hx158_5 hx159_0 hx159_1 hx159_2 hx159_3 hx159_4 hx159_5 hHeld ⊢
                    refine pure_ (i := 0) (N := some 49) (v := ?_) (a' := ?_) #[true, false, false, false, false, false, false, false, false, false, false, false] rfl rfl (any_of HT_.out (by kernel_rfl)) (fun _ _ _ h => h) (Or.inl ⟨by rfl, ?_⟩) ?_ ?_
                    rotate_left
                    · intro w'
                      go_simp
                      with_reducible rfl
                    rotate_left
                    · simp only [Act.put, List.setIfInBounds_toArray, List.set_cons_zero, List.set_cons_succ, i64_w, i32_w]
                      rfl
                    refine pure_ (i := 2) (N := some 51) (v := ?_) (a' := ?_) #[true, false, true, false, false, false, false, false, false, false, false, false] rfl rfl (any_of HT_.out (by kernel_rfl)) (fun _ _ _ h => h) (Or.inl ⟨by rfl, ?_⟩) ?_ ?_
                    rotate_left
                    · intro w'
                      go_simp
                      with_reducible rfl
                    rotate_left
                    · simp only [Act.put, List.setIfInBounds_toArray, List.set_cons_zero, List.set_cons_succ, i64_w, i32_w]
                      rfl
                    refine pure_ (i := 5) (N := some 54) (v := ?_) (a' := ?_) #[true, false, true, false, false, true, false, false, false, false, false, false] rfl rfl (any_of HT_.out (by kernel_rfl)) (fun _ _ _ h => h) (Or.inl ⟨by rfl, ?_⟩) ?_ ?_
                    rotate_left
                    · intro w'
                      go_simp
                      with_reducible rfl
                    rotate_left
                    · simp only [Act.put, List.setIfInBounds_toArray, List.set_cons_zero, List.set_cons_succ, i64_w, i32_w]
                      rfl
                    refine pure_ (i := 7) (N := some 56) (v := ?_) (a' := ?_) #[true, false, true, false, false, true, false, true, false, false, false, false] rfl rfl (any_of HT_.out (by kernel_rfl)) (fun _ _ _ h => h) (Or.inl ⟨by rfl, ?_⟩) ?_ ?_
                    rotate_left
                    · intro w'
                      go_simp
                      with_reducible rfl
                    rotate_left
                    · simp only [Act.put, List.setIfInBounds_toArray, List.set_cons_zero, List.set_cons_succ, i64_w, i32_w]
                      rfl
                    refine take_ (i := 1) (N := some 50) (v := ?_) (a' := ?_) #[true, true, true, false, false, true, false, true, false, false, false, false] rfl rfl (take_ofW HT_.out HW_.out (by kernel_rfl)) (fun _ _ _ h => h) (Or.inl ⟨by rfl, ?_⟩) hHeld ?_ ?_
                    rotate_left
                    · rintro w' ⟨s0, s1, s2, s3, s4, s5, s6, s7, s8, s9, s10, s11, s12, s13, s14, s15, s16, s17, s18, s19, s20, s21, s22, s23⟩
                      go_simp
                      with_reducible rfl
                    rotate_left
                    · simp only [Act.put, List.setIfInBounds_toArray, List.set_cons_zero, List.set_cons_succ, i64_w, i32_w]
                      rfl
                    refine pure_ (i := 3) (N := some 52) (v := ?_) (a' := ?_) #[true, true, true, true, false, true, false, true, false, false, false, false] rfl rfl (any_of HT_.out (by kernel_rfl)) (fun _ _ _ h => h) (Or.inl ⟨by rfl, ?_⟩) ?_ ?_
                    rotate_left
                    · intro w'
                      go_simp
                      with_reducible rfl
                    rotate_left
                    · simp only [Act.put, List.setIfInBounds_toArray, List.set_cons_zero, List.set_cons_succ, i64_w, i32_w]
                      rfl
                    refine take_ (i := 4) (N := some 53) (v := ?_) (a' := ?_) #[true, true, true, true, true, true, false, true, false, false, false, false] rfl rfl (take_ofW HT_.out HW_.out (by kernel_rfl)) (fun _ _ _ h => h) (Or.inl ⟨by rfl, ?_⟩) hHeld ?_ ?_
                    rotate_left
                    · rintro w' ⟨s0, s1, s2, s3, s4, s5, s6, s7, s8, s9, s10, s11, s12, s13, s14, s15, s16, s17, s18, s19, s20, s21, s22, s23⟩
                      go_simp
                      with_reducible rfl
                    rotate_left
                    · simp only [Act.put, List.setIfInBounds_toArray, List.set_cons_zero, List.set_cons_succ, i64_w, i32_w]
                      rfl
                    refine take_ (i := 6) (N := some 55) (v := ?_) (a' := ?_) #[true, true, true, true, true, true, true, true, false, false, false, false] rfl rfl (take_ofW HT_.out HW_.out (by kernel_rfl)) (fun _ _ _ h => h) (Or.inl ⟨by rfl, ?_⟩) hHeld ?_ ?_
                    rotate_left
                    · rintro w' ⟨s0, s1, s2, s3, s4, s5, s6, s7, s8, s9, s10, s11, s12, s13, s14, s15, s16, s17, s18, s19, s20, s21, s22, s23⟩
                      go_simp
                      with_reducible rfl
                    rotate_left
                    · simp only [Act.put, List.setIfInBounds_toArray, List.set_cons_zero, List.set_cons_succ, i64_w, i32_w]
                      rfl
                    refine pure_ (i := 8) (N := some 57) (v := ?_) (a' := ?_) #[true, true, true, true, true, true, true, true, true, false, false, false] rfl rfl (any_of HT_.out (by kernel_rfl)) (fun _ _ _ h => h) (Or.inl ⟨by rfl, ?_⟩) ?_ ?_
                    rotate_left
                    · intro w'
                      go_simp
                      with_reducible rfl
                    rotate_left
                    · simp only [Act.put, List.setIfInBounds_toArray, List.set_cons_zero, List.set_cons_succ, i64_w, i32_w]
                      rfl
                    refine take_ (i := 9) (N := some 58) (v := ?_) (a' := ?_) #[true, true, true, true, true, true, true, true, true, true, false, false] rfl rfl (take_ofW HT_.out HW_.out (by kernel_rfl)) (fun _ _ _ h => h) (Or.inl ⟨by rfl, ?_⟩) hHeld ?_ ?_
                    rotate_left
                    · rintro w' ⟨s0, s1, s2, s3, s4, s5, s6, s7, s8, s9, s10, s11, s12, s13, s14, s15, s16, s17, s18, s19, s20, s21, s22, s23⟩
                      go_simp
                      with_reducible rfl
                    rotate_left
                    · simp only [Act.put, List.setIfInBounds_toArray, List.set_cons_zero, List.set_cons_succ, i64_w, i32_w]
                      rfl
                    refine one_ (i := 10) (N := some 59) #[true, true, true, true, true, true, true, true, true, true, true, false] rfl rfl (one_of HT_.out (by kernel_rfl)) (by decide) (fun K hK => ?_)
                    refine goes_ Try.func14 (by kernel_rfl) rfl #[.agg #[.int .i64 ((rd_T27 l0_5 x5_2).f0.f0), .int .i64 ((rd_T27 l0_5 x5_2).f0.f1), .string ((rd_T27 l0_5 x5_2).f1), .string ((rd_T27 l0_5 x5_2).f2), .slice A158_4 ((rd_T27 l0_5 x5_2).f3).length c158_4, .slice A158_5 ((rd_T27 l0_5 x5_2).f4).length c158_5], .agg #[.int .i64 ((rd_T27 l1_5 x5_2).f0.f0), .int .i64 ((rd_T27 l1_5 x5_2).f0.f1), .string ((rd_T27 l1_5 x5_2).f1), .string ((rd_T27 l1_5 x5_2).f2), .slice A159_4 ((rd_T27 l1_5 x5_2).f3).length c159_4, .slice A159_5 ((rd_T27 l1_5 x5_2).f4).length c159_5]] (by rfl) rfl rfl (by (try simp only [List.map_toArray, List.map_cons, List.map_nil]); first | done | rfl | (simp only [List.length_drop, List.length_take]; rfl)) ?_
                    with_reducible refine (ih k2 (by have := HJ2.out; have := HK2.out; omega) ((rd_T27 l0_5 x5_2).f0.f0) ((rd_T27 l0_5 x5_2).f0.f1) ((rd_T27 l0_5 x5_2).f1) ((rd_T27 l0_5 x5_2).f2) _ _ ((rd_T27 l0_5 x5_2).f3) _ _ ((rd_T27 l0_5 x5_2).f4) ((rd_T27 l1_5 x5_2).f0.f0) ((rd_T27 l1_5 x5_2).f0.f1) ((rd_T27 l1_5 x5_2).f1) ((rd_T27 l1_5 x5_2).f2) _ _ ((rd_T27 l1_5 x5_2).f3) _ _ ((rd_T27 l1_5 x5_2).f4) true _ ?side1 ?side2 ?side3 ?side4 ?side5 ?side6 ?side7 ?side8 A30.out).mono ?_
                    (case side1 => repeat (first | exact (Kd.C_below HR158_4.out HB.out) | (with_reducible refine Kd.C_alloc ?_ _) | (with_reducible refine Kd.C_drewN ?_ _) | (with_reducible refine Kd.C_drew ?_)))
                    (case side2 => exact HC158_4.out)
                    (case side3 => repeat (first | exact (Kd.C_below HR158_5.out HB.out) | (with_reducible refine Kd.C_alloc ?_ _) | (with_reducible refine Kd.C_drewN ?_ _) | (with_reducible refine Kd.C_drew ?_)))
                    (case side4 => exact HC158_5.out)
                    (case side5 => repeat (first | exact (Kd.C_below HR159_4.out HB.out) | (with_reducible refine Kd.C_alloc ?_ _) | (with_reducible refine Kd.C_drewN ?_ _) | (with_reducible refine Kd.C_drew ?_)))
                    (case side6 => exact HC159_4.out)
                    (case side7 => repeat (first | exact (Kd.C_below HR159_5.out HB.out) | (with_reducible refine Kd.C_alloc ?_ _) | (with_reducible refine Kd.C_drewN ?_ _) | (with_reducible refine Kd.C_drew ?_)))
                    (case side8 => exact HC159_5.out)
                    rintro e w35 ⟨rfl, hb⟩
                    refine ⟨_, rfl, ?_⟩
                    have n0_ := Aside0.mk (blk_below (g := gb155) (o := .cells #[.int .i64 a0_0, .int .i64 a0_1, .string a0_2, .string a0_3, .slice A0_4 l0_4.length c0_4, .slice (some ad158) l0_5.length c0_5] 27 (0, 0)) (by (with_reducible repeat (first | refine blk_drewN ?_ _ | refine blk_drew ?_ | refine blk_alloc ?_ _)); exact BK155.out) hb)
                    have n1_ := Aside0.mk (blk_below (g := gb156) (o := .cells #[.int .i64 a1_0, .int .i64 a1_1, .string a1_2, .string a1_3, .slice A1_4 l1_4.length c1_4, .slice (some ad159) l1_5.length c1_5] 27 (0, 0)) (by (with_reducible repeat (first | refine blk_drewN ?_ _ | refine blk_drew ?_ | refine blk_alloc ?_ _)); exact BK156.out) hb)
                    have n2_ := Aside0.mk (below_step (by repeat (first | (with_reducible first | exact HB.out | apply below_alloc | apply pw_below_drewN | apply below_drew1 | refine below_set ?_ GE155.out | refine below_set ?_ GE156.out) | exact HB.out)) hb)
                    clear BK155
                    clear BK156
                    clear HB
                    have BK155 := n0_
                    have BK156 := n1_
                    have HB := n2_
                    clear n0_ n1_ n2_
                    (try clear hb)
                    (try clear hb2)
                    (try clear hk)
                    (try clear hi)
                    refine hK.out _ _ ⟨(blk_cell BK155.out 0).trans rfl, (blk_cell BK155.out 1).trans rfl, (blk_cell BK155.out 2).trans rfl, (blk_cell BK155.out 3).trans rfl, (blk_cell BK155.out 4).trans rfl, (blk_cell BK155.out 5).trans rfl, (blk_cell BK156.out 0).trans rfl, (blk_cell BK156.out 1).trans rfl, (blk_cell BK156.out 2).trans rfl, (blk_cell BK156.out 3).trans rfl, (blk_cell BK156.out 4).trans rfl, (blk_cell BK156.out 5).trans rfl, ((HB.out.cell (World.block_lt_of_cell? w _ hw158_0)).trans hw158_0), ((HB.out.cell (World.block_lt_of_cell? w _ hw158_1)).trans hw158_1), ((HB.out.cell (World.block_lt_of_cell? w _ hw158_2)).trans hw158_2), ((HB.out.cell (World.block_lt_of_cell? w _ hw158_3)).trans hw158_3), ((HB.out.cell (World.block_lt_of_cell? w _ hw158_4)).trans hw158_4), ((HB.out.cell (World.block_lt_of_cell? w _ hw158_5)).trans hw158_5), ((HB.out.cell (World.block_lt_of_cell? w _ hw159_0)).trans hw159_0), ((HB.out.cell (World.block_lt_of_cell? w _ hw159_1)).trans hw159_1), ((HB.out.cell (World.block_lt_of_cell? w _ hw159_2)).trans hw159_2), ((HB.out.cell (World.block_lt_of_cell? w _ hw159_3)).trans hw159_3), ((HB.out.cell (World.block_lt_of_cell? w _ hw159_4)).trans hw159_4), ((HB.out.cell (World.block_lt_of_cell? w _ hw159_5)).trans hw159_5)⟩ (fun hHeld => ?_)
                    clear hK K
                    refine norm_ (a' := ?_) ?_ ?_
                    rotate_left
                    · show Act.put _ (some 59) _ = _
                      simp only [Act.put, List.setIfInBounds_toArray, List.set_cons_zero, List.set_cons_succ, i64_w, i32_w]
                      rfl
                    refine pure_ (i := 11) (N := some 60) (v := ?_) (a' := ?_) #[true, true, true, true, true, true, true, true, true, true, true, true] rfl rfl (any_of HT_.out (by kernel_rfl)) (fun _ _ _ h => h) (Or.inl ⟨by rfl, ?_⟩) ?_ ?_
                    rotate_left
                    · intro w'
                      go_simp
                      with_reducible rfl
                    rotate_left
                    · simp only [Act.put, List.setIfInBounds_toArray, List.set_cons_zero, List.set_cons_succ, i64_w, i32_w]
                      rfl
                    refine done_ (done_of HT_.out (by kernel_rfl)) ?_
                    try go_wp2
                    go_roundg k2
                    case measure => have := HJ2.out; have := HK2.out; omega
                    case rel => exact ⟨(wrap64 (x5_2 + 1)), (by first | rfl | (simp; done) | (simp [*]; done)), H', ⟨by have := HJ2.out; have := HK2.out; omega⟩, ⟨by (with_reducible repeat (first | refine blk_drewN ?_ _ | refine blk_drew ?_ | refine blk_alloc ?_ _)); exact BK155.out⟩, ⟨by (with_reducible repeat (first | refine blk_drewN ?_ _ | refine blk_drew ?_ | refine blk_alloc ?_ _)); exact BK156.out⟩, ⟨by repeat (first | (with_reducible first | exact HB.out | apply below_alloc | apply pw_below_drewN | apply below_drew1 | refine below_set ?_ GE155.out | refine below_set ?_ GE156.out) | exact HB.out)⟩⟩
                  · replace c31 := Bool.eq_false_iff.mpr c31
                    subst c31
                    have H1 : (some false) = some r := by rw [if_neg (show ¬ (false = true) by decide)] at H; exact H
                    clear H
                    have H := H1
                    clear H1
                    obtain rfl := Option.some.inj H
                    have hnb36 := NB155_156.out
                    have hnc36 := NB156_155.out
                    have hcz37_0 : wr.cell? ⟨gb155, 0, none⟩ = some (.int .i64 a0_0) := (blk_cell BK155.out 0).trans rfl
                    have hcz37_1 : wr.cell? ⟨gb155, 1, none⟩ = some (.int .i64 a0_1) := (blk_cell BK155.out 1).trans rfl
                    have hcz37_2 : wr.cell? ⟨gb155, 2, none⟩ = some (.string a0_2) := (blk_cell BK155.out 2).trans rfl
                    have hcz37_3 : wr.cell? ⟨gb155, 3, none⟩ = some (.string a0_3) := (blk_cell BK155.out 3).trans rfl
                    have hcz37_4 : wr.cell? ⟨gb155, 4, none⟩ = some (.slice A0_4 l0_4.length c0_4) := (blk_cell BK155.out 4).trans rfl
                    have hcz37_5 : wr.cell? ⟨gb155, 5, none⟩ = some (.slice A0_5 l0_5.length c0_5) := (blk_cell BK155.out 5).trans rfl
                    have hfz37_0 := blk_frozen BK155.out 0
                    have hfz37_1 := blk_frozen BK155.out 1
                    have hfz37_2 := blk_frozen BK155.out 2
                    have hfz37_3 := blk_frozen BK155.out 3
                    have hfz37_4 := blk_frozen BK155.out 4
                    have hfz37_5 := blk_frozen BK155.out 5
                    try go_wp2
                    have n0_ := Aside0.mk (blk_drew BK155.out)
                    have n1_ := Aside0.mk (blk_drew BK156.out)
                    have n2_ := Aside0.mk (below_drew1 HB.out)
                    clear BK155
                    clear BK156
                    clear HB
                    have BK155 := n0_
                    have BK156 := n1_
                    have HB := n2_
                    clear n0_ n1_ n2_
                    have p158 : 0 ≤ (x5_2 : Int) := of_decide_eq_true (by first | (with_reducible assumption) | assumption)
                    have q158 : x5_2 < (l0_5.length : Int) := of_decide_eq_true (by first | (with_reducible assumption) | assumption)
                    obtain ⟨ad158, A158_4, c158_4, A158_5, c158_5, e158, hx158_0, hx158_1, hx158_2, hx158_3, hx158_4, hx158_5, hl158_4, hi158_4, hl158_5, hi158_5⟩ := at_T27 HR0_5.out x5_2 p158 q158
                    have hw158_5 := hx158_5
                    have hw158_4 := hx158_4
                    have hw158_3 := hx158_3
                    have hw158_2 := hx158_2
                    have hw158_1 := hx158_1
                    have hw158_0 := hx158_0
                    cases e158
                    replace hx158_0 := (HB.out.cell (World.block_lt_of_cell? w _ hx158_0)).trans hx158_0
                    replace hx158_1 := (HB.out.cell (World.block_lt_of_cell? w _ hx158_1)).trans hx158_1
                    replace hx158_2 := (HB.out.cell (World.block_lt_of_cell? w _ hx158_2)).trans hx158_2
                    replace hx158_3 := (HB.out.cell (World.block_lt_of_cell? w _ hx158_3)).trans hx158_3
                    replace hx158_4 := (HB.out.cell (World.block_lt_of_cell? w _ hx158_4)).trans hx158_4
                    replace hx158_5 := (HB.out.cell (World.block_lt_of_cell? w _ hx158_5)).trans hx158_5
                    have HR158_4 := Aside0.mk hi158_4
                    have HC158_4 := Aside0.mk hl158_4
                    clear hi158_4 hl158_4
                    have HR158_5 := Aside0.mk hi158_5
                    have HC158_5 := Aside0.mk hl158_5
                    clear hi158_5 hl158_5
                    replace p158 := eq_true p158
                    replace q158 := eq_true q158
                    have p159 : 0 ≤ (x5_2 : Int) := of_decide_eq_true (by first | (with_reducible assumption) | assumption)
                    have q159 : x5_2 < (l1_5.length : Int) := of_decide_eq_true (by first | (with_reducible assumption) | assumption)
                    obtain ⟨ad159, A159_4, c159_4, A159_5, c159_5, e159, hx159_0, hx159_1, hx159_2, hx159_3, hx159_4, hx159_5, hl159_4, hi159_4, hl159_5, hi159_5⟩ := at_T27 HR1_5.out x5_2 p159 q159
                    have hw159_5 := hx159_5
                    have hw159_4 := hx159_4
                    have hw159_3 := hx159_3
                    have hw159_2 := hx159_2
                    have hw159_1 := hx159_1
                    have hw159_0 := hx159_0
                    cases e159
                    replace hx159_0 := (HB.out.cell (World.block_lt_of_cell? w _ hx159_0)).trans hx159_0
                    replace hx159_1 := (HB.out.cell (World.block_lt_of_cell? w _ hx159_1)).trans hx159_1
                    replace hx159_2 := (HB.out.cell (World.block_lt_of_cell? w _ hx159_2)).trans hx159_2
                    replace hx159_3 := (HB.out.cell (World.block_lt_of_cell? w _ hx159_3)).trans hx159_3
                    replace hx159_4 := (HB.out.cell (World.block_lt_of_cell? w _ hx159_4)).trans hx159_4
                    replace hx159_5 := (HB.out.cell (World.block_lt_of_cell? w _ hx159_5)).trans hx159_5
                    have HR159_4 := Aside0.mk hi159_4
                    have HC159_4 := Aside0.mk hl159_4
                    clear hi159_4 hl159_4
                    have HR159_5 := Aside0.mk hi159_5
                    have HC159_5 := Aside0.mk hl159_5
                    clear hi159_5 hl159_5
                    replace p159 := eq_true p159
                    replace q159 := eq_true q159
                    refine start_ (n := 12) (S := fun w' => w'.cell? ⟨gb155, 0, none⟩ = some (.int .i64 a0_0) ∧ w'.cell? ⟨gb155, 1, none⟩ = some (.int .i64 a0_1) ∧ w'.cell? ⟨gb155, 2, none⟩ = some (.string a0_2) ∧ w'.cell? ⟨gb155, 3, none⟩ = some (.string a0_3) ∧ w'.cell? ⟨gb155, 4, none⟩ = some (.slice A0_4 l0_4.length c0_4) ∧ w'.cell? ⟨gb155, 5, none⟩ = some (.slice (some ad158) l0_5.length c0_5) ∧ w'.cell? ⟨gb156, 0, none⟩ = some (.int .i64 a1_0) ∧ w'.cell? ⟨gb156, 1, none⟩ = some (.int .i64 a1_1) ∧ w'.cell? ⟨gb156, 2, none⟩ = some (.string a1_2) ∧ w'.cell? ⟨gb156, 3, none⟩ = some (.string a1_3) ∧ w'.cell? ⟨gb156, 4, none⟩ = some (.slice A1_4 l1_4.length c1_4) ∧ w'.cell? ⟨gb156, 5, none⟩ = some (.slice (some ad159) l1_5.length c1_5) ∧ w'.cell? (ad158.add ((x5_2).toNat * 6)) = some (.int .i64 ((rd_T27 l0_5 x5_2).f0.f0)) ∧ w'.cell? ⟨(ad158.add ((x5_2).toNat * 6)).block, (ad158.add ((x5_2).toNat * 6)).off + 1, none⟩ = some (.int .i64 ((rd_T27 l0_5 x5_2).f0.f1)) ∧ w'.cell? ⟨(ad158.add ((x5_2).toNat * 6)).block, (ad158.add ((x5_2).toNat * 6)).off + 2, none⟩ = some (.string ((rd_T27 l0_5 x5_2).f1)) ∧ w'.cell? ⟨(ad158.add ((x5_2).toNat * 6)).block, (ad158.add ((x5_2).toNat * 6)).off + 3, none⟩ = some (.string ((rd_T27 l0_5 x5_2).f2)) ∧ w'.cell? ⟨(ad158.add ((x5_2).toNat * 6)).block, (ad158.add ((x5_2).toNat * 6)).off + 4, none⟩ = some (.slice A158_4 ((rd_T27 l0_5 x5_2).f3).length c158_4) ∧ w'.cell? ⟨(ad158.add ((x5_2).toNat * 6)).block, (ad158.add ((x5_2).toNat * 6)).off + 5, none⟩ = some (.slice A158_5 ((rd_T27 l0_5 x5_2).f4).length c158_5) ∧ w'.cell? (ad159.add ((x5_2).toNat * 6)) = some (.int .i64 ((rd_T27 l1_5 x5_2).f0.f0)) ∧ w'.cell? ⟨(ad159.add ((x5_2).toNat * 6)).block, (ad159.add ((x5_2).toNat * 6)).off + 1, none⟩ = some (.int .i64 ((rd_T27 l1_5 x5_2).f0.f1)) ∧ w'.cell? ⟨(ad159.add ((x5_2).toNat * 6)).block, (ad159.add ((x5_2).toNat * 6)).off + 2, none⟩ = some (.string ((rd_T27 l1_5 x5_2).f1)) ∧ w'.cell? ⟨(ad159.add ((x5_2).toNat * 6)).block, (ad159.add ((x5_2).toNat * 6)).off + 3, none⟩ = some (.string ((rd_T27 l1_5 x5_2).f2)) ∧ w'.cell? ⟨(ad159.add ((x5_2).toNat * 6)).block, (ad159.add ((x5_2).toNat * 6)).off + 4, none⟩ = some (.slice A159_4 ((rd_T27 l1_5 x5_2).f3).length c159_4) ∧ w'.cell? ⟨(ad159.add ((x5_2).toNat * 6)).block, (ad159.add ((x5_2).toNat * 6)).off + 5, none⟩ = some (.slice A159_5 ((rd_T27 l1_5 x5_2).f4).length c159_5)) (ds := []) #[false, false, false, false, false, false, false, false, false, false, false, false] (by kernel_rfl) rfl rfl ⟨(blk_cell BK155.out 0).trans rfl, (blk_cell BK155.out 1).trans rfl, (blk_cell BK155.out 2).trans rfl, (blk_cell BK155.out 3).trans rfl, (blk_cell BK155.out 4).trans rfl, (blk_cell BK155.out 5).trans rfl, (blk_cell BK156.out 0).trans rfl, (blk_cell BK156.out 1).trans rfl, (blk_cell BK156.out 2).trans rfl, (blk_cell BK156.out 3).trans rfl, (blk_cell BK156.out 4).trans rfl, (blk_cell BK156.out 5).trans rfl, ((HB.out.cell (World.block_lt_of_cell? w _ hw158_0)).trans hw158_0), ((HB.out.cell (World.block_lt_of_cell? w _ hw158_1)).trans hw158_1), ((HB.out.cell (World.block_lt_of_cell? w _ hw158_2)).trans hw158_2), ((HB.out.cell (World.block_lt_of_cell? w _ hw158_3)).trans hw158_3), ((HB.out.cell (World.block_lt_of_cell? w _ hw158_4)).trans hw158_4), ((HB.out.cell (World.block_lt_of_cell? w _ hw158_5)).trans hw158_5), ((HB.out.cell (World.block_lt_of_cell? w _ hw159_0)).trans hw159_0), ((HB.out.cell (World.block_lt_of_cell? w _ hw159_1)).trans hw159_1), ((HB.out.cell (World.block_lt_of_cell? w _ hw159_2)).trans hw159_2), ((HB.out.cell (World.block_lt_of_cell? w _ hw159_3)).trans hw159_3), ((HB.out.cell (World.block_lt_of_cell? w _ hw159_4)).trans hw159_4), ((HB.out.cell (World.block_lt_of_cell? w _ hw159_5)).trans hw159_5)⟩ (fun hHeld => ?_); refine with_tabW topiaryref15_Same.tab6 topiaryref15_Same.bits6 (fun HT_ HW_ => ?_)
                    generalize wr.drew = w38 at BK155 BK156 HB HR158_4 HR158_5 HR159_4 HR159_5 hx158_0 hx158_1 hx158_2 hx158_3 hx158_4 hx158_5 hx159_0 hx159_1 hx159_2 hx159_3 hx159_4 hx159_5 hHeld ⊢
                    refine pure_ (i := 0) (N := some 49) (v := ?_) (a' := ?_) #[true, false, false, false, false, false, false, false, false, false, false, false] rfl rfl (any_of HT_.out (by kernel_rfl)) (fun _ _ _ h => h) (Or.inl ⟨by rfl, ?_⟩) ?_ ?_
                    rotate_left
                    · intro w'
                      go_simp
                      with_reducible rfl
                    rotate_left
                    · simp only [Act.put, List.setIfInBounds_toArray, List.set_cons_zero, List.set_cons_succ, i64_w, i32_w]
                      rfl
                    refine pure_ (i := 2) (N := some 51) (v := ?_) (a' := ?_) #[true, false, true, false, false, false, false, false, false, false, false, false] rfl rfl (any_of HT_.out (by kernel_rfl)) (fun _ _ _ h => h) (Or.inl ⟨by rfl, ?_⟩) ?_ ?_
                    rotate_left
                    · intro w'
                      go_simp
                      with_reducible rfl
                    rotate_left
                    · simp only [Act.put, List.setIfInBounds_toArray, List.set_cons_zero, List.set_cons_succ, i64_w, i32_w]
                      rfl
                    refine pure_ (i := 5) (N := some 54) (v := ?_) (a' := ?_) #[true, false, true, false, false, true, false, false, false, false, false, false] rfl rfl (any_of HT_.out (by kernel_rfl)) (fun _ _ _ h => h) (Or.inl ⟨by rfl, ?_⟩) ?_ ?_
                    rotate_left
                    · intro w'
                      go_simp
                      with_reducible rfl
                    rotate_left
                    · simp only [Act.put, List.setIfInBounds_toArray, List.set_cons_zero, List.set_cons_succ, i64_w, i32_w]
                      rfl
                    refine pure_ (i := 7) (N := some 56) (v := ?_) (a' := ?_) #[true, false, true, false, false, true, false, true, false, false, false, false] rfl rfl (any_of HT_.out (by kernel_rfl)) (fun _ _ _ h => h) (Or.inl ⟨by rfl, ?_⟩) ?_ ?_
                    rotate_left
                    · intro w'
                      go_simp
                      with_reducible rfl
                    rotate_left
                    · simp only [Act.put, List.setIfInBounds_toArray, List.set_cons_zero, List.set_cons_succ, i64_w, i32_w]
                      rfl
                    refine take_ (i := 1) (N := some 50) (v := ?_) (a' := ?_) #[true, true, true, false, false, true, false, true, false, false, false, false] rfl rfl (take_ofW HT_.out HW_.out (by kernel_rfl)) (fun _ _ _ h => h) (Or.inl ⟨by rfl, ?_⟩) hHeld ?_ ?_
                    rotate_left
                    · rintro w' ⟨s0, s1, s2, s3, s4, s5, s6, s7, s8, s9, s10, s11, s12, s13, s14, s15, s16, s17, s18, s19, s20, s21, s22, s23⟩
                      go_simp
                      with_reducible rfl
                    rotate_left
                    · simp only [Act.put, List.setIfInBounds_toArray, List.set_cons_zero, List.set_cons_succ, i64_w, i32_w]
                      rfl
                    refine pure_ (i := 3) (N := some 52) (v := ?_) (a' := ?_) #[true, true, true, true, false, true, false, true, false, false, false, false] rfl rfl (any_of HT_.out (by kernel_rfl)) (fun _ _ _ h => h) (Or.inl ⟨by rfl, ?_⟩) ?_ ?_
                    rotate_left
                    · intro w'
                      go_simp
                      with_reducible rfl
                    rotate_left
                    · simp only [Act.put, List.setIfInBounds_toArray, List.set_cons_zero, List.set_cons_succ, i64_w, i32_w]
                      rfl
                    refine take_ (i := 4) (N := some 53) (v := ?_) (a' := ?_) #[true, true, true, true, true, true, false, true, false, false, false, false] rfl rfl (take_ofW HT_.out HW_.out (by kernel_rfl)) (fun _ _ _ h => h) (Or.inl ⟨by rfl, ?_⟩) hHeld ?_ ?_
                    rotate_left
                    · rintro w' ⟨s0, s1, s2, s3, s4, s5, s6, s7, s8, s9, s10, s11, s12, s13, s14, s15, s16, s17, s18, s19, s20, s21, s22, s23⟩
                      go_simp
                      with_reducible rfl
                    rotate_left
                    · simp only [Act.put, List.setIfInBounds_toArray, List.set_cons_zero, List.set_cons_succ, i64_w, i32_w]
                      rfl
                    refine take_ (i := 6) (N := some 55) (v := ?_) (a' := ?_) #[true, true, true, true, true, true, true, true, false, false, false, false] rfl rfl (take_ofW HT_.out HW_.out (by kernel_rfl)) (fun _ _ _ h => h) (Or.inl ⟨by rfl, ?_⟩) hHeld ?_ ?_
                    rotate_left
                    · rintro w' ⟨s0, s1, s2, s3, s4, s5, s6, s7, s8, s9, s10, s11, s12, s13, s14, s15, s16, s17, s18, s19, s20, s21, s22, s23⟩
                      go_simp
                      with_reducible rfl
                    rotate_left
                    · simp only [Act.put, List.setIfInBounds_toArray, List.set_cons_zero, List.set_cons_succ, i64_w, i32_w]
                      rfl
                    refine pure_ (i := 8) (N := some 57) (v := ?_) (a' := ?_) #[true, true, true, true, true, true, true, true, true, false, false, false] rfl rfl (any_of HT_.out (by kernel_rfl)) (fun _ _ _ h => h) (Or.inl ⟨by rfl, ?_⟩) ?_ ?_
                    rotate_left
                    · intro w'
                      go_simp
                      with_reducible rfl
                    rotate_left
                    · simp only [Act.put, List.setIfInBounds_toArray, List.set_cons_zero, List.set_cons_succ, i64_w, i32_w]
                      rfl
                    refine take_ (i := 9) (N := some 58) (v := ?_) (a' := ?_) #[true, true, true, true, true, true, true, true, true, true, false, false] rfl rfl (take_ofW HT_.out HW_.out (by kernel_rfl)) (fun _ _ _ h => h) (Or.inl ⟨by rfl, ?_⟩) hHeld ?_ ?_
                    rotate_left
                    · rintro w' ⟨s0, s1, s2, s3, s4, s5, s6, s7, s8, s9, s10, s11, s12, s13, s14, s15, s16, s17, s18, s19, s20, s21, s22, s23⟩
                      go_simp
                      with_reducible rfl
                    rotate_left
                    · simp only [Act.put, List.setIfInBounds_toArray, List.set_cons_zero, List.set_cons_succ, i64_w, i32_w]
                      rfl
                    refine one_ (i := 10) (N := some 59) #[true, true, true, true, true, true, true, true, true, true, true, false] rfl rfl (one_of HT_.out (by kernel_rfl)) (by decide) (fun K hK => ?_)
                    refine goes_ Try.func14 (by kernel_rfl) rfl #[.agg #[.int .i64 ((rd_T27 l0_5 x5_2).f0.f0), .int .i64 ((rd_T27 l0_5 x5_2).f0.f1), .string ((rd_T27 l0_5 x5_2).f1), .string ((rd_T27 l0_5 x5_2).f2), .slice A158_4 ((rd_T27 l0_5 x5_2).f3).length c158_4, .slice A158_5 ((rd_T27 l0_5 x5_2).f4).length c158_5], .agg #[.int .i64 ((rd_T27 l1_5 x5_2).f0.f0), .int .i64 ((rd_T27 l1_5 x5_2).f0.f1), .string ((rd_T27 l1_5 x5_2).f1), .string ((rd_T27 l1_5 x5_2).f2), .slice A159_4 ((rd_T27 l1_5 x5_2).f3).length c159_4, .slice A159_5 ((rd_T27 l1_5 x5_2).f4).length c159_5]] (by rfl) rfl rfl (by (try simp only [List.map_toArray, List.map_cons, List.map_nil]); first | done | rfl | (simp only [List.length_drop, List.length_take]; rfl)) ?_
                    with_reducible refine (ih k2 (by have := HJ2.out; have := HK2.out; omega) ((rd_T27 l0_5 x5_2).f0.f0) ((rd_T27 l0_5 x5_2).f0.f1) ((rd_T27 l0_5 x5_2).f1) ((rd_T27 l0_5 x5_2).f2) _ _ ((rd_T27 l0_5 x5_2).f3) _ _ ((rd_T27 l0_5 x5_2).f4) ((rd_T27 l1_5 x5_2).f0.f0) ((rd_T27 l1_5 x5_2).f0.f1) ((rd_T27 l1_5 x5_2).f1) ((rd_T27 l1_5 x5_2).f2) _ _ ((rd_T27 l1_5 x5_2).f3) _ _ ((rd_T27 l1_5 x5_2).f4) false _ ?side1 ?side2 ?side3 ?side4 ?side5 ?side6 ?side7 ?side8 A30.out).mono ?_
                    (case side1 => repeat (first | exact (Kd.C_below HR158_4.out HB.out) | (with_reducible refine Kd.C_alloc ?_ _) | (with_reducible refine Kd.C_drewN ?_ _) | (with_reducible refine Kd.C_drew ?_)))
                    (case side2 => exact HC158_4.out)
                    (case side3 => repeat (first | exact (Kd.C_below HR158_5.out HB.out) | (with_reducible refine Kd.C_alloc ?_ _) | (with_reducible refine Kd.C_drewN ?_ _) | (with_reducible refine Kd.C_drew ?_)))
                    (case side4 => exact HC158_5.out)
                    (case side5 => repeat (first | exact (Kd.C_below HR159_4.out HB.out) | (with_reducible refine Kd.C_alloc ?_ _) | (with_reducible refine Kd.C_drewN ?_ _) | (with_reducible refine Kd.C_drew ?_)))
                    (case side6 => exact HC159_4.out)
                    (case side7 => repeat (first | exact (Kd.C_below HR159_5.out HB.out) | (with_reducible refine Kd.C_alloc ?_ _) | (with_reducible refine Kd.C_drewN ?_ _) | (with_reducible refine Kd.C_drew ?_)))
                    (case side8 => exact HC159_5.out)
                    rintro e w39 ⟨rfl, hb⟩
                    refine ⟨_, rfl, ?_⟩
                    have n0_ := Aside0.mk (blk_below (g := gb155) (o := .cells #[.int .i64 a0_0, .int .i64 a0_1, .string a0_2, .string a0_3, .slice A0_4 l0_4.length c0_4, .slice (some ad158) l0_5.length c0_5] 27 (0, 0)) (by (with_reducible repeat (first | refine blk_drewN ?_ _ | refine blk_drew ?_ | refine blk_alloc ?_ _)); exact BK155.out) hb)
                    have n1_ := Aside0.mk (blk_below (g := gb156) (o := .cells #[.int .i64 a1_0, .int .i64 a1_1, .string a1_2, .string a1_3, .slice A1_4 l1_4.length c1_4, .slice (some ad159) l1_5.length c1_5] 27 (0, 0)) (by (with_reducible repeat (first | refine blk_drewN ?_ _ | refine blk_drew ?_ | refine blk_alloc ?_ _)); exact BK156.out) hb)
                    have n2_ := Aside0.mk (below_step (by repeat (first | (with_reducible first | exact HB.out | apply below_alloc | apply pw_below_drewN | apply below_drew1 | refine below_set ?_ GE155.out | refine below_set ?_ GE156.out) | exact HB.out)) hb)
                    clear BK155
                    clear BK156
                    clear HB
                    have BK155 := n0_
                    have BK156 := n1_
                    have HB := n2_
                    clear n0_ n1_ n2_
                    (try clear hb)
                    (try clear hb2)
                    (try clear hk)
                    (try clear hi)
                    refine hK.out _ _ ⟨(blk_cell BK155.out 0).trans rfl, (blk_cell BK155.out 1).trans rfl, (blk_cell BK155.out 2).trans rfl, (blk_cell BK155.out 3).trans rfl, (blk_cell BK155.out 4).trans rfl, (blk_cell BK155.out 5).trans rfl, (blk_cell BK156.out 0).trans rfl, (blk_cell BK156.out 1).trans rfl, (blk_cell BK156.out 2).trans rfl, (blk_cell BK156.out 3).trans rfl, (blk_cell BK156.out 4).trans rfl, (blk_cell BK156.out 5).trans rfl, ((HB.out.cell (World.block_lt_of_cell? w _ hw158_0)).trans hw158_0), ((HB.out.cell (World.block_lt_of_cell? w _ hw158_1)).trans hw158_1), ((HB.out.cell (World.block_lt_of_cell? w _ hw158_2)).trans hw158_2), ((HB.out.cell (World.block_lt_of_cell? w _ hw158_3)).trans hw158_3), ((HB.out.cell (World.block_lt_of_cell? w _ hw158_4)).trans hw158_4), ((HB.out.cell (World.block_lt_of_cell? w _ hw158_5)).trans hw158_5), ((HB.out.cell (World.block_lt_of_cell? w _ hw159_0)).trans hw159_0), ((HB.out.cell (World.block_lt_of_cell? w _ hw159_1)).trans hw159_1), ((HB.out.cell (World.block_lt_of_cell? w _ hw159_2)).trans hw159_2), ((HB.out.cell (World.block_lt_of_cell? w _ hw159_3)).trans hw159_3), ((HB.out.cell (World.block_lt_of_cell? w _ hw159_4)).trans hw159_4), ((HB.out.cell (World.block_lt_of_cell? w _ hw159_5)).trans hw159_5)⟩ (fun hHeld => ?_)
                    clear hK K
                    refine norm_ (a' := ?_) ?_ ?_
                    rotate_left
                    · show Act.put _ (some 59) _ = _
                      simp only [Act.put, List.setIfInBounds_toArray, List.set_cons_zero, List.set_cons_succ, i64_w, i32_w]
                      rfl
                    refine pure_ (i := 11) (N := some 60) (v := ?_) (a' := ?_) #[true, true, true, true, true, true, true, true, true, true, true, true] rfl rfl (any_of HT_.out (by kernel_rfl)) (fun _ _ _ h => h) (Or.inl ⟨by rfl, ?_⟩) ?_ ?_
                    rotate_left
                    · intro w'
                      go_simp
                      with_reducible rfl
                    rotate_left
                    · simp only [Act.put, List.setIfInBounds_toArray, List.set_cons_zero, List.set_cons_succ, i64_w, i32_w]
                      rfl
                    refine done_ (done_of HT_.out (by kernel_rfl)) ?_
                    try go_wp2
                    go_ret
                    exact ⟨by first | rfl | (simp [errW_none, errW_some] <;> rfl) | (simp [*, errW_none, errW_some] <;> rfl), by repeat (first | (with_reducible first | exact HB.out | apply below_alloc | apply pw_below_drewN | apply below_drew1 | refine below_set ?_ GE155.out | refine below_set ?_ GE156.out) | exact HB.out)⟩
                · rw [if_neg c29] at H
                  exact absurd H (by simp)
              · rw [if_neg c28] at H
                exact absurd H (by simp)
            · rw [if_neg c27] at H
              have c27b0 : decide (x5_2 < (l0_5.length : Int)) = false := decide_eq_false c27
              clear c27
              obtain rfl := Option.some.inj H
              have hnb40 := NB155_156.out
              have hnc40 := NB156_155.out
              have hcz41_0 : wr.cell? ⟨gb155, 0, none⟩ = some (.int .i64 a0_0) := (blk_cell BK155.out 0).trans rfl
              have hcz41_1 : wr.cell? ⟨gb155, 1, none⟩ = some (.int .i64 a0_1) := (blk_cell BK155.out 1).trans rfl
              have hcz41_2 : wr.cell? ⟨gb155, 2, none⟩ = some (.string a0_2) := (blk_cell BK155.out 2).trans rfl
              have hcz41_3 : wr.cell? ⟨gb155, 3, none⟩ = some (.string a0_3) := (blk_cell BK155.out 3).trans rfl
              have hcz41_4 : wr.cell? ⟨gb155, 4, none⟩ = some (.slice A0_4 l0_4.length c0_4) := (blk_cell BK155.out 4).trans rfl
              have hcz41_5 : wr.cell? ⟨gb155, 5, none⟩ = some (.slice A0_5 l0_5.length c0_5) := (blk_cell BK155.out 5).trans rfl
              have hfz41_0 := blk_frozen BK155.out 0
              have hfz41_1 := blk_frozen BK155.out 1
              have hfz41_2 := blk_frozen BK155.out 2
              have hfz41_3 := blk_frozen BK155.out 3
              have hfz41_4 := blk_frozen BK155.out 4
              have hfz41_5 := blk_frozen BK155.out 5
              go_wp2
              go_ret
              exact ⟨by first | rfl | (simp [errW_none, errW_some] <;> rfl) | (simp [*, errW_none, errW_some] <;> rfl), by repeat (first | (with_reducible first | exact HB.out | apply below_alloc | apply pw_below_drewN | apply below_drew1 | refine below_set ?_ GE155.out | refine below_set ?_ GE156.out) | exact HB.out)⟩
end Go.Proofs.Ytnkbgimihikhoaa.PVt
