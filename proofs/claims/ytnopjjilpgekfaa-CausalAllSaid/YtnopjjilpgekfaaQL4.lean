/- What the statement's row needs of this session's texts, joined by program: part 5. -/
import Derived.Laws.CopyRow
import Derived.WalkSpells
import Derived.IntWalk
import Derived.Lib.Overlaps
import Derived.Lib.AppendZerosOnto
import Derived.WalkMore
import Derived.Deep.LoopGhost
import Derived.Test.YtnopjjilpgekfaaQL3
namespace Go.Proofs.Ytnopjjilpgekfaa.PCa
open Go.RowKit Go.Proofs.YtnopjjilpgekfaaW.PrintWords Go.Proofs.YtnopjjilpgekfaaW.PrintLast Go.Proofs.YtnopjjilpgekfaaW.PrintMore
attribute [local go_sem] max2_int min2_int max_two min_two max_three min_three max_four min_four
set_option linter.unusedVariables false
set_option linter.unusedSimpArgs false
mutual
def topiaryref07_behind.l0 : Nat → List (S32) → Int → Int → Int → Int → List Int → Int → Int → Int → Int → Int → Int → Int → ByteArray → ByteArray → Option (Bool)
 | 0, _, _, _, _, _, _, _, _, _, _, _, _, _, _, _ => none
 | k + 1, x0, x5, x209000, x209001, x209002, x209003, x209004, x209005, x209006, x209007, x209008, x209009, x209010, x209011, x209012 => if x5 < (x209003.length : Int) then (if 0 ≤ x5 then (if (rd x209003 x5) = 0 then (topiaryref07_behind.l0 k x0 (wrap64 (x5 + 1)) x209000 x209001 x209002 x209003 x209004 x209005 x209006 x209007 x209008 x209009 x209010 x209011 x209012) else ((topiaryref07_Own.f k x0 x5 (rd x209003 x5)).bind fun t211 => (if t211 < 0 then (some false) else (if 0 ≤ t211 then (if t211 < (x0.length : Int) then ((topiaryref01_Less.f ((rd_T32 x0 t211).f0.f0) ((rd_T32 x0 t211).f0.f1) x209000 x209001).bind fun t213 => (if t213 = true then (topiaryref07_behind.l0 k x0 (wrap64 (x5 + 1)) x209000 x209001 x209002 x209003 x209004 x209005 x209006 x209007 x209008 x209009 x209010 x209011 x209012) else (some false))) else (none)) else (none))))) else (none)) else ((topiaryref05_Names.f k x209000 x209001 x209002 x209003 x209004 x209005 x209006 x209007 x209008 x209009 x209010 x209011 x209012).bind fun t214 => (topiaryref07_behind.l1 k x0 t214 0 x209000 x209001 x209002 x209003 x209004 x209005 x209006 x209007 x209008 x209009 x209010 x209011 x209012))
def topiaryref07_behind.l1 : Nat → List (S32) → List (S30) → Int → Int → Int → Int → List Int → Int → Int → Int → Int → Int → Int → Int → ByteArray → ByteArray → Option (Bool)
 | 0, _, _, _, _, _, _, _, _, _, _, _, _, _, _, _, _ => none
 | k + 1, x0, x7, x8, x209000, x209001, x209002, x209003, x209004, x209005, x209006, x209007, x209008, x209009, x209010, x209011, x209012 => if x8 < (x7.length : Int) then (if 0 ≤ x8 then ((topiaryref07_Find.f k x0 ((rd_T30 x7 x8).f0) ((rd_T30 x7 x8).f1)).bind fun t218 => (if t218 < 0 then (some false) else (if 0 ≤ t218 then (if t218 < (x0.length : Int) then ((topiaryref07_Within.f ((rd_T32 x0 t218).f0.f0) ((rd_T32 x0 t218).f0.f1) ((rd_T32 x0 t218).f1) ((rd_T32 x0 t218).f2) ((rd_T32 x0 t218).f3) ((rd_T32 x0 t218).f4.f0) ((rd_T32 x0 t218).f4.f1) ((rd_T32 x0 t218).f5.f0) ((rd_T32 x0 t218).f5.f1) ((rd_T32 x0 t218).f6.f0) ((rd_T32 x0 t218).f6.f1) ((rd_T32 x0 t218).f7) ((rd_T32 x0 t218).f8) x209003).bind fun t220 => (if t220 = true then (topiaryref07_behind.l1 k x0 x7 (wrap64 (x8 + 1)) x209000 x209001 x209002 x209003 x209004 x209005 x209006 x209007 x209008 x209009 x209010 x209011 x209012) else (some false))) else (none)) else (none)))) else (none)) else (some true)
end
def topiaryref07_behind.f (k : Nat) (l0 : List (S32)) (a1_0 : Int) (a1_1 : Int) (a1_2 : Int) (l1_3 : List Int) (a1_4 : Int) (a1_5 : Int) (a1_6 : Int) (a1_7 : Int) (a1_8 : Int) (a1_9 : Int) (a1_10 : Int) (a1_11 : ByteArray) (a1_12 : ByteArray) : Option (Bool) := topiaryref07_behind.l0 k l0 0 a1_0 a1_1 a1_2 l1_3 a1_4 a1_5 a1_6 a1_7 a1_8 a1_9 a1_10 a1_11 a1_12
def topiaryref07_behind.T6 : Bool × List (List Nat × List Nat) := (true, [([], []), ([0], [0]), ([1], [1]), ([2], [2]), ([2], [2]), ([3, 4, 2], [2, 3, 4]), ([5, 2], [2, 5]), ([6, 2], [2, 6]), ([2], [2]), ([8, 2], [2, 8]), ([7, 9, 2, 2], [2, 7, 9]), ([10, 2], [2, 10]), ([2, 11], [2, 11])])
def topiaryref07_behind.B6 : List Nat := [0, 1, 3, 7, 7, 31, 63, 127, 7, 263, 1023, 2047, 4095]
theorem topiaryref07_behind.tab6 : rtab .any (opsOf Try.f59 6) = topiaryref07_behind.T6 := by kernel_rfl
theorem topiaryref07_behind.bits6 : waitsOk topiaryref07_behind.T6.2 topiaryref07_behind.B6 = true := by kernel_rfl
def topiaryref07_behind.T13 : Bool × List (List Nat × List Nat) := (true, [([], []), ([0], [0]), ([1], [1]), ([2], [2]), ([2], [2]), ([3, 4, 2], [2, 3, 4]), ([5, 2], [2, 5]), ([2], [2]), ([7, 2], [2, 7]), ([6, 8, 2, 2], [2, 6, 8]), ([9, 2], [2, 9]), ([2, 10], [2, 10])])
def topiaryref07_behind.B13 : List Nat := [0, 1, 3, 7, 7, 31, 63, 7, 135, 511, 1023, 2047]
theorem topiaryref07_behind.tab13 : rtab .any (opsOf Try.f59 13) = topiaryref07_behind.T13 := by kernel_rfl
theorem topiaryref07_behind.bits13 : waitsOk topiaryref07_behind.T13.2 topiaryref07_behind.B13 = true := by kernel_rfl
set_option maxHeartbeats 8000000 in
set_option maxRecDepth 100000 in
theorem topiaryref07_behind.calls (k : Nat) (A0 : Option Addr) (c0 : Nat) (l0 : List (S32)) (a1_0 : Int) (a1_1 : Int) (a1_2 : Int) (A1_3 : Option Addr) (c1_3 : Nat) (l1_3 : List Int) (a1_4 : Int) (a1_5 : Int) (a1_6 : Int) (a1_7 : Int) (a1_8 : Int) (a1_9 : Int) (a1_10 : Int) (a1_11 : ByteArray) (a1_12 : ByteArray) (r : Bool) (w : World) (hr0 : Kd.C k32 w A0 l0.length l0) (hc0 : l0.length ≤ c0) (hr1_3 : Kd.C (Kd.int .i64) w A1_3 l1_3.length l1_3) (hc1_3 : l1_3.length ≤ c1_3) (h : topiaryref07_behind.f k l0 a1_0 a1_1 a1_2 l1_3 a1_4 a1_5 a1_6 a1_7 a1_8 a1_9 a1_10 a1_11 a1_12 = some r) :
  Calls Try.prog 59 #[.slice A0 l0.length c0, .agg #[.int .i64 a1_0, .int .i64 a1_1, .int .i64 a1_2, .slice A1_3 l1_3.length c1_3, .int .i64 a1_4, .int .i64 a1_5, .int .i64 a1_6, .int .i64 a1_7, .int .i64 a1_8, .int .i64 a1_9, .int .i64 a1_10, .string a1_11, .string a1_12]] w fun e w' => e = .returned (.bool r) ∧ Below w.heap.size w w' := by
 have hu32 := Try.underlying32
 have hu30 := Try.underlying30
 have HR0 := Aside0.mk hr0
 have HC0 := Aside0.mk hc0
 clear hr0 hc0
 have HR1_3 := Aside0.mk hr1_3
 have HC1_3 := Aside0.mk hc1_3
 clear hr1_3 hc1_3
 have HB := Aside0.mk (Below.refl w.heap.size w)
 have H : (topiaryref07_behind.l0 k l0 0 a1_0 a1_1 a1_2 l1_3 a1_4 a1_5 a1_6 a1_7 a1_8 a1_9 a1_10 a1_11 a1_12) = some r := h
 clear h
 have H' := Aside0.mk H
 clear H
 go_enter Try.func59, Try.ntmps59
 go_wp2_with (first | ((with_reducible refine gate_dst (N := 3) rfl ?_); refine boxE (N := 3) (cs := #[.int .i64 a1_0, .int .i64 a1_1, .int .i64 a1_2, .slice A1_3 l1_3.length c1_3, .int .i64 a1_4, .int .i64 a1_5, .int .i64 a1_6, .int .i64 a1_7, .int .i64 a1_8, .int .i64 a1_9, .int .i64 a1_10, .string a1_11, .string a1_12]) (t := 32) ?_; intro gb208 hg w3 hbox hb; have BK208 := Aside0.mk (hbox); have GW208 := Aside0.mk ((by rw [hg]; exact (below_size (bS HB)) : w.heap.size ≤ gb208)); have GE208 := Aside0.mk ((by rw [hg]; exact (below_size (bS HB)) : w.heap.size ≤ gb208)); replace HB := Aside0.mk (below_step (bS HB) hb); clear hb hbox hg))
 go_loopg [5] k (fun kq v5 w' => ∃ (x5_1 : Int), v5 = .int .i64 x5_1 ∧ Aside0 (topiaryref07_behind.l0 kq l0 x5_1 a1_0 a1_1 a1_2 l1_3 a1_4 a1_5 a1_6 a1_7 a1_8 a1_9 a1_10 a1_11 a1_12 = some r) ∧ Aside0 (kq ≤ k) ∧ Aside0 (w'.heap[gb208]? = some (.cells #[.int .i64 a1_0, .int .i64 a1_1, .int .i64 a1_2, (.slice A1_3 l1_3.length c1_3), .int .i64 a1_4, .int .i64 a1_5, .int .i64 a1_6, .int .i64 a1_7, .int .i64 a1_8, .int .i64 a1_9, .int .i64 a1_10, .string a1_11, .string a1_12] 32 (0, 0))) ∧ Aside0 (Below w.heap.size w w'))
 case atStart => exact ⟨(0), (by first | rfl | (simp; done) | (simp [*]; done)), H', ⟨Nat.le_refl _⟩, ⟨by (with_reducible repeat (first | refine blk_drewN ?_ _ | refine blk_drew ?_ | refine blk_alloc ?_ _)); exact BK208.out⟩, ⟨bS1 HB GE208⟩⟩
 case round =>
  clear H'
  (try clear c1); (try clear p2)
  obtain ⟨x5_1, rfl, HA, HK1, BK208, HB⟩ := hrel
  cases gk with
  | zero => exact absurd HA.out (by simp [topiaryref07_behind.l0])
  | succ k1 =>
   have H := HA.out
   clear HA
   simp only [topiaryref07_behind.l0] at H
   by_cases c4 : x5_1 < (l1_3.length : Int)
   ·rw [if_pos c4] at H
    have c4b0 : decide (x5_1 < (l1_3.length : Int)) = true := decide_eq_true c4
    clear c4
    by_cases c5 : 0 ≤ x5_1
    ·rw [if_pos c5] at H
     have c5b0 : decide (0 ≤ x5_1) = true := decide_eq_true c5
     clear c5
     by_cases c6 : (rd l1_3 x5_1) = 0
     ·rw [if_pos c6] at H
      have c6b0 : ((rd l1_3 x5_1) == 0) = true := beq_iff_eq.mpr c6
      have c6b1 : ((rd l1_3 x5_1) != 0) = false := bne_eq_false_iff_eq.mpr c6
      clear c6
      have H' := Aside0.mk H
      clear H
      obtain ⟨hcz7_0, hcz7_1, hcz7_2, hcz7_3, hcz7_4, hcz7_5, hcz7_6, hcz7_7, hcz7_8, hcz7_9, hcz7_10, hcz7_11, hcz7_12⟩ := cells13 BK208.out
      have p209 : 0 ≤ (x5_1 : Int) := of_decide_eq_true asmS
      have q209 : x5_1 < (l1_3.length : Int) := of_decide_eq_true asmS
      obtain ⟨ad209, e209, hx209_0⟩ := Kd.at_int HR1_3.out x5_1 p209 q209
      cases e209
      replace hx209_0 := (HB.out.cell (World.block_lt_of_cell? w _ hx209_0)).trans hx209_0
      replace p209 := eq_true p209
      replace q209 := eq_true q209
      go_wp2
      go_roundg k1
      case measure => have := HK1.out; omega
      case rel => exact ⟨(wrap64 (x5_1 + 1)), (by first | rfl | (simp; done) | (simp [*]; done)), H', ⟨by have := HK1.out; omega⟩, ⟨by (with_reducible repeat (first | refine blk_drewN ?_ _ | refine blk_drew ?_ | refine blk_alloc ?_ _)); exact BK208.out⟩, ⟨bS1 HB GE208⟩⟩
     ·rw [if_neg c6] at H
      have c6b0 : ((rd l1_3 x5_1) == 0) = false := beq_eq_false_iff_ne.mpr c6
      have c6b1 : ((rd l1_3 x5_1) != 0) = true := bne_iff_ne.mpr c6
      replace H := Option.bind_eq_some_iff.mp H
      obtain ⟨t211, A80, H⟩ := H
      replace H : (if t211 < 0 then (some false) else (if 0 ≤ t211 then (if t211 < (l0.length : Int) then ((topiaryref01_Less.f ((rd_T32 l0 t211).f0.f0) ((rd_T32 l0 t211).f0.f1) a1_0 a1_1).bind fun t213 => (if t213 = true then (topiaryref07_behind.l0 k1 l0 (wrap64 (x5_1 + 1)) a1_0 a1_1 a1_2 l1_3 a1_4 a1_5 a1_6 a1_7 a1_8 a1_9 a1_10 a1_11 a1_12) else (some false))) else (none)) else (none))) = some r := H
      have A8 := Aside0.mk A80
      clear A80
      by_cases c9 : t211 < 0
      ·rw [if_pos c9] at H
       have c9b0 : decide (t211 < 0) = true := decide_eq_true c9
       clear c9
       obtain rfl := Option.some.inj H
       obtain ⟨hcz10_0, hcz10_1, hcz10_2, hcz10_3, hcz10_4, hcz10_5, hcz10_6, hcz10_7, hcz10_8, hcz10_9, hcz10_10, hcz10_11, hcz10_12⟩ := cells13 BK208.out
       have p209 : 0 ≤ (x5_1 : Int) := of_decide_eq_true asmS
       have q209 : x5_1 < (l1_3.length : Int) := of_decide_eq_true asmS
       obtain ⟨ad209, e209, hx209_0⟩ := Kd.at_int HR1_3.out x5_1 p209 q209
       cases e209
       replace hx209_0 := (HB.out.cell (World.block_lt_of_cell? w _ hx209_0)).trans hx209_0
       replace p209 := eq_true p209
       replace q209 := eq_true q209
       have p210 : 0 ≤ (x5_1 : Int) := of_decide_eq_true asmS
       have q210 : x5_1 < (l1_3.length : Int) := of_decide_eq_true asmS
       obtain ⟨ad210, e210, hx210_0⟩ := Kd.at_int HR1_3.out x5_1 p210 q210
       obtain rfl : ad209 = ad210 := (by injection e210)
       replace hx210_0 := (HB.out.cell (World.block_lt_of_cell? w _ hx210_0)).trans hx210_0
       replace p210 := eq_true p210
       replace q210 := eq_true q210
       try go_wp2_with (first | ((with_reducible refine gate_callee (f := 51) rfl ?_); refine goesL_ (some 30) rfl rfl Try.func51 (by kernel_rfl) rfl #[.slice A0 l0.length c0, .int .i64 x5_1, .int .i64 (rd l1_3 x5_1)] rfl argS ?_; (with_reducible refine (topiaryref07_Own.calls k1 _ _ l0 x5_1 (rd l1_3 x5_1) t211 _ ?side1 ?side2 A8.out).mono ?_); (case side1 => exact CS (Kd.C_below HR0.out HB.out)); (case side2 => exact HC0.out); rintro e w' ⟨rfl, ⟨nd, rfl⟩⟩; refine ⟨_, rfl, ?_⟩))
       (try (rw [drewN_self wr]; generalize hq_ : World.drewN wr _ = wr; have n0_ : Aside0 (wr.heap[gb208]? = some (.cells #[.int .i64 a1_0, .int .i64 a1_1, .int .i64 a1_2, .slice (some ad209) l1_3.length c1_3, .int .i64 a1_4, .int .i64 a1_5, .int .i64 a1_6, .int .i64 a1_7, .int .i64 a1_8, .int .i64 a1_9, .int .i64 a1_10, .string a1_11, .string a1_12] 32 (0, 0))) := ⟨by rw [← hq_]; exact (blkS BK208)⟩; have n1_ : Aside0 (Below w.heap.size w wr) := ⟨by rw [← hq_]; exact (bS1 HB GE208)⟩; clear BK208 HB hq_; have BK208 := n0_; have HB := n1_; clear n0_ n1_))
       replace BK208 := Aside0.mk (blk_drew BK208.out)
       replace HB := Aside0.mk (below_drew1 HB.out)
       refine start_ (n := 13) (S := fun w' => True) (ds := []) #[false, false, false, false, false, false, false, false, false, false, false, false, false] (by kernel_rfl) rfl rfl trivial (fun hHeld => ?_); refine with_tabW topiaryref07_behind.tab6 topiaryref07_behind.bits6 (fun HT_ HW_ => ?_)
       generalize wr.drew = w11 at BK208 HB hHeld ⊢
       refine pureT (i := 0) (N := some 31) HT_ ?_
       refine pureT (i := 1) (N := some 32) HT_ ?_
       refine pureT (i := 2) (N := some 33) HT_ ?_
       refine pureV (i := 3) (N := some 34) HT_ ?_
       refine pureV (i := 4) (N := some 35) HT_ ?_
       refine pureV (i := 5) (N := some 36) HT_ ?_
       refine pureV (i := 6) (N := some 37) HT_ ?_
       refine pureV (i := 7) (N := some 38) HT_ ?_
       refine pureV (i := 8) (N := some 39) HT_ ?_
       refine pureV (i := 9) (N := some 40) HT_ ?_
       refine pureV (i := 10) (N := some 41) HT_ ?_
       refine pureV (i := 11) (N := some 42) HT_ ?_
       refine pureT (i := 12) (N := some 43) HT_ ?_
       refine done_ (done_of HT_.out (by kernel_rfl)) ?_
       try go_wp2
       go_ret
       exact ⟨by first | rfl | (simp [errW_none, errW_some] <;> rfl) | (simp [*, errW_none, errW_some] <;> rfl), bS1 HB GE208⟩
      ·rw [if_neg c9] at H
       have c9b0 : decide (t211 < 0) = false := decide_eq_false c9
       clear c9
       by_cases c12 : 0 ≤ t211
       ·rw [if_pos c12] at H
        have c12b0 : decide (0 ≤ t211) = true := decide_eq_true c12
        clear c12
        by_cases c13 : t211 < (l0.length : Int)
        ·rw [if_pos c13] at H
         have c13b0 : decide (t211 < (l0.length : Int)) = true := decide_eq_true c13
         clear c13
         replace H := Option.bind_eq_some_iff.mp H
         obtain ⟨t213, A140, H⟩ := H
         replace H : (if t213 = true then (topiaryref07_behind.l0 k1 l0 (wrap64 (x5_1 + 1)) a1_0 a1_1 a1_2 l1_3 a1_4 a1_5 a1_6 a1_7 a1_8 a1_9 a1_10 a1_11 a1_12) else (some false)) = some r := H
         have A14 := Aside0.mk A140
         clear A140
         by_cases c15 : t213 = true
         ·subst c15
          have H1 : (topiaryref07_behind.l0 k1 l0 (wrap64 (x5_1 + 1)) a1_0 a1_1 a1_2 l1_3 a1_4 a1_5 a1_6 a1_7 a1_8 a1_9 a1_10 a1_11 a1_12) = some r := by rw [if_pos rfl] at H; exact H
          clear H
          have H := H1
          clear H1
          have H' := Aside0.mk H
          clear H
          obtain ⟨hcz16_0, hcz16_1, hcz16_2, hcz16_3, hcz16_4, hcz16_5, hcz16_6, hcz16_7, hcz16_8, hcz16_9, hcz16_10, hcz16_11, hcz16_12⟩ := cells13 BK208.out
          have p209 : 0 ≤ (x5_1 : Int) := of_decide_eq_true asmS
          have q209 : x5_1 < (l1_3.length : Int) := of_decide_eq_true asmS
          obtain ⟨ad209, e209, hx209_0⟩ := Kd.at_int HR1_3.out x5_1 p209 q209
          cases e209
          replace hx209_0 := (HB.out.cell (World.block_lt_of_cell? w _ hx209_0)).trans hx209_0
          replace p209 := eq_true p209
          replace q209 := eq_true q209
          have p210 : 0 ≤ (x5_1 : Int) := of_decide_eq_true asmS
          have q210 : x5_1 < (l1_3.length : Int) := of_decide_eq_true asmS
          obtain ⟨ad210, e210, hx210_0⟩ := Kd.at_int HR1_3.out x5_1 p210 q210
          obtain rfl : ad209 = ad210 := (by injection e210)
          replace hx210_0 := (HB.out.cell (World.block_lt_of_cell? w _ hx210_0)).trans hx210_0
          replace p210 := eq_true p210
          replace q210 := eq_true q210
          try go_wp2_with (first | ((with_reducible refine gate_callee (f := 51) rfl ?_); refine goesL_ (some 30) rfl rfl Try.func51 (by kernel_rfl) rfl #[.slice A0 l0.length c0, .int .i64 x5_1, .int .i64 (rd l1_3 x5_1)] rfl argS ?_; (with_reducible refine (topiaryref07_Own.calls k1 _ _ l0 x5_1 (rd l1_3 x5_1) t211 _ ?side1 ?side2 A8.out).mono ?_); (case side1 => exact CS (Kd.C_below HR0.out HB.out)); (case side2 => exact HC0.out); rintro e w' ⟨rfl, ⟨nd, rfl⟩⟩; refine ⟨_, rfl, ?_⟩))
          (try (rw [drewN_self wr]; generalize hq_ : World.drewN wr _ = wr; have n0_ : Aside0 (wr.heap[gb208]? = some (.cells #[.int .i64 a1_0, .int .i64 a1_1, .int .i64 a1_2, .slice (some ad209) l1_3.length c1_3, .int .i64 a1_4, .int .i64 a1_5, .int .i64 a1_6, .int .i64 a1_7, .int .i64 a1_8, .int .i64 a1_9, .int .i64 a1_10, .string a1_11, .string a1_12] 32 (0, 0))) := ⟨by rw [← hq_]; exact (blkS BK208)⟩; have n1_ : Aside0 (Below w.heap.size w wr) := ⟨by rw [← hq_]; exact (bS1 HB GE208)⟩; clear BK208 HB hq_; have BK208 := n0_; have HB := n1_; clear n0_ n1_))
          replace BK208 := Aside0.mk (blk_drew BK208.out)
          replace HB := Aside0.mk (below_drew1 HB.out)
          have p212 : 0 ≤ (t211 : Int) := of_decide_eq_true asmS
          have q212 : t211 < (l0.length : Int) := of_decide_eq_true asmS
          obtain ⟨ad212, A212_3, c212_3, e212, hx212_0, hx212_1, hx212_2, hx212_3, hx212_4, hx212_5, hx212_6, hx212_7, hx212_8, hx212_9, hx212_10, hx212_11, hx212_12, hl212_3, hi212_3⟩ := at_T32 HR0.out t211 p212 q212
          have hw212_12 := hx212_12
          have hw212_11 := hx212_11
          have hw212_10 := hx212_10
          have hw212_9 := hx212_9
          have hw212_8 := hx212_8
          have hw212_7 := hx212_7
          have hw212_6 := hx212_6
          have hw212_5 := hx212_5
          have hw212_4 := hx212_4
          have hw212_3 := hx212_3
          have hw212_2 := hx212_2
          have hw212_1 := hx212_1
          have hw212_0 := hx212_0
          cases e212
          replace hx212_0 := (HB.out.cell (World.block_lt_of_cell? w _ hx212_0)).trans hx212_0
          replace hx212_1 := (HB.out.cell (World.block_lt_of_cell? w _ hx212_1)).trans hx212_1
          replace hx212_2 := (HB.out.cell (World.block_lt_of_cell? w _ hx212_2)).trans hx212_2
          replace hx212_3 := (HB.out.cell (World.block_lt_of_cell? w _ hx212_3)).trans hx212_3
          replace hx212_4 := (HB.out.cell (World.block_lt_of_cell? w _ hx212_4)).trans hx212_4
          replace hx212_5 := (HB.out.cell (World.block_lt_of_cell? w _ hx212_5)).trans hx212_5
          replace hx212_6 := (HB.out.cell (World.block_lt_of_cell? w _ hx212_6)).trans hx212_6
          replace hx212_7 := (HB.out.cell (World.block_lt_of_cell? w _ hx212_7)).trans hx212_7
          replace hx212_8 := (HB.out.cell (World.block_lt_of_cell? w _ hx212_8)).trans hx212_8
          replace hx212_9 := (HB.out.cell (World.block_lt_of_cell? w _ hx212_9)).trans hx212_9
          replace hx212_10 := (HB.out.cell (World.block_lt_of_cell? w _ hx212_10)).trans hx212_10
          replace hx212_11 := (HB.out.cell (World.block_lt_of_cell? w _ hx212_11)).trans hx212_11
          replace hx212_12 := (HB.out.cell (World.block_lt_of_cell? w _ hx212_12)).trans hx212_12
          have HR212_3 := Aside0.mk hi212_3
          have HC212_3 := Aside0.mk hl212_3
          clear hi212_3 hl212_3
          replace p212 := eq_true p212
          replace q212 := eq_true q212
          refine startS (n := 13) (S := fun w' => C13 w' gb208 (.int .i64 a1_0) (.int .i64 a1_1) (.int .i64 a1_2) (.slice (some ad209) l1_3.length c1_3) (.int .i64 a1_4) (.int .i64 a1_5) (.int .i64 a1_6) (.int .i64 a1_7) (.int .i64 a1_8) (.int .i64 a1_9) (.int .i64 a1_10) (.string a1_11) (.string a1_12) (E13e w' (ad212.add ((t211).toNat * 13)) (.int .i64 ((rd_T32 l0 t211).f0.f0)) (.int .i64 ((rd_T32 l0 t211).f0.f1)) (.int .i64 ((rd_T32 l0 t211).f1)) (.slice A212_3 ((rd_T32 l0 t211).f2).length c212_3) (.int .i64 ((rd_T32 l0 t211).f3)) (.int .i64 ((rd_T32 l0 t211).f4.f0)) (.int .i64 ((rd_T32 l0 t211).f4.f1)) (.int .i64 ((rd_T32 l0 t211).f5.f0)) (.int .i64 ((rd_T32 l0 t211).f5.f1)) (.int .i64 ((rd_T32 l0 t211).f6.f0)) (.int .i64 ((rd_T32 l0 t211).f6.f1)) (.string ((rd_T32 l0 t211).f7)) (.string ((rd_T32 l0 t211).f8)))) (ds := []) (c13 BK208 ⟨cS HB hw212_0, cS HB hw212_1, cS HB hw212_2, cS HB hw212_3, cS HB hw212_4, cS HB hw212_5, cS HB hw212_6, cS HB hw212_7, cS HB hw212_8, cS HB hw212_9, cS HB hw212_10, cS HB hw212_11, cS HB hw212_12⟩) (fun hHeld => ?_); refine with_tabW topiaryref07_behind.tab6 topiaryref07_behind.bits6 (fun HT_ HW_ => ?_)
          generalize wr.drew = w17 at BK208 HB HR212_3 hx212_0 hx212_1 hx212_10 hx212_11 hx212_12 hx212_2 hx212_3 hx212_4 hx212_5 hx212_6 hx212_7 hx212_8 hx212_9 hHeld ⊢
          refine pureT (i := 0) (N := some 31) HT_ ?_
          refine pureT (i := 1) (N := some 32) HT_ ?_
          refine pureT (i := 2) (N := some 33) HT_ ?_
          refine pureT (i := 3) (N := some 34) HT_ ?_
          refine pureT (i := 4) (N := some 35) HT_ ?_
          refine pureT (i := 5) (N := some 36) HT_ ?_
          refine pureT (i := 6) (N := some 37) HT_ ?_
          refine pureT (i := 8) (N := some 39) HT_ ?_
          refine takeS (i := 7) (N := some 38) (v := ?_) HT_ HW_ hHeld ?_ ?_
          rotate_left
          ·rintro w' ⟨s0, s1, s2, s3, s4, s5, s6, s7, s8, s9, s10, s11, s12, s13, s14, s15, s16, s17, s18, s19, s20, s21, s22, s23, s24, s25⟩
           go_simp
           with_reducible rfl
          refine normS (N := some 38) ?_
          refine takeS (i := 9) (N := some 40) (v := ?_) HT_ HW_ hHeld ?_ ?_
          rotate_left
          ·rintro w' ⟨s0, s1, s2, s3, s4, s5, s6, s7, s8, s9, s10, s11, s12, s13, s14, s15, s16, s17, s18, s19, s20, s21, s22, s23, s24, s25⟩
           go_simp
           with_reducible rfl
          refine normS (N := some 40) ?_
          refine oneS (i := 10) (N := some 41) HT_ (fun K hK => ?_)
          refine goes_ Try.func60 (by kernel_rfl) rfl #[.agg #[.int .i64 ((rd_T32 l0 t211).f0.f0), .int .i64 ((rd_T32 l0 t211).f0.f1)], .agg #[.int .i64 a1_0, .int .i64 a1_1]] (by rfl) rfl rfl argS ?_
          with_reducible refine (topiaryref01_Less.calls ((rd_T32 l0 t211).f0.f0) ((rd_T32 l0 t211).f0.f1) a1_0 a1_1 true _ A14.out).mono ?_
          rintro e w18 ⟨rfl, hb⟩
          refine ⟨_, rfl, ?_⟩
          replace BK208 := Aside0.mk (blk_below (blkS BK208) hb)
          replace HB := Aside0.mk (below_step (bS1 HB GE208) hb)
          (try clear hb)
          refine hK.out _ _ (c13 BK208 ⟨cS HB hw212_0, cS HB hw212_1, cS HB hw212_2, cS HB hw212_3, cS HB hw212_4, cS HB hw212_5, cS HB hw212_6, cS HB hw212_7, cS HB hw212_8, cS HB hw212_9, cS HB hw212_10, cS HB hw212_11, cS HB hw212_12⟩) (fun hHeld => ?_)
          clear hK K
          refine normS (N := (some 41)) ?_
          refine pureT (i := 11) (N := some 42) HT_ ?_
          refine pureT (i := 12) (N := some 43) HT_ ?_
          refine done_ (done_of HT_.out (by kernel_rfl)) ?_
          try go_wp2
          go_roundg k1
          case measure => have := HK1.out; omega
          case rel => exact ⟨(wrap64 (x5_1 + 1)), (by first | rfl | (simp; done) | (simp [*]; done)), H', ⟨by have := HK1.out; omega⟩, ⟨by (with_reducible repeat (first | refine blk_drewN ?_ _ | refine blk_drew ?_ | refine blk_alloc ?_ _)); exact BK208.out⟩, ⟨bS1 HB GE208⟩⟩
         ·replace c15 := Bool.eq_false_iff.mpr c15
          subst c15
          have H1 : (some false) = some r := by rw [if_neg (show ¬ (false = true) by decide)] at H; exact H
          clear H
          have H := H1
          clear H1
          obtain rfl := Option.some.inj H
          obtain ⟨hcz19_0, hcz19_1, hcz19_2, hcz19_3, hcz19_4, hcz19_5, hcz19_6, hcz19_7, hcz19_8, hcz19_9, hcz19_10, hcz19_11, hcz19_12⟩ := cells13 BK208.out
          have p209 : 0 ≤ (x5_1 : Int) := of_decide_eq_true asmS
          have q209 : x5_1 < (l1_3.length : Int) := of_decide_eq_true asmS
          obtain ⟨ad209, e209, hx209_0⟩ := Kd.at_int HR1_3.out x5_1 p209 q209
          cases e209
          replace hx209_0 := (HB.out.cell (World.block_lt_of_cell? w _ hx209_0)).trans hx209_0
          replace p209 := eq_true p209
          replace q209 := eq_true q209
          have p210 : 0 ≤ (x5_1 : Int) := of_decide_eq_true asmS
          have q210 : x5_1 < (l1_3.length : Int) := of_decide_eq_true asmS
          obtain ⟨ad210, e210, hx210_0⟩ := Kd.at_int HR1_3.out x5_1 p210 q210
          obtain rfl : ad209 = ad210 := (by injection e210)
          replace hx210_0 := (HB.out.cell (World.block_lt_of_cell? w _ hx210_0)).trans hx210_0
          replace p210 := eq_true p210
          replace q210 := eq_true q210
          try go_wp2_with (first | ((with_reducible refine gate_callee (f := 51) rfl ?_); refine goesL_ (some 30) rfl rfl Try.func51 (by kernel_rfl) rfl #[.slice A0 l0.length c0, .int .i64 x5_1, .int .i64 (rd l1_3 x5_1)] rfl argS ?_; (with_reducible refine (topiaryref07_Own.calls k1 _ _ l0 x5_1 (rd l1_3 x5_1) t211 _ ?side1 ?side2 A8.out).mono ?_); (case side1 => exact CS (Kd.C_below HR0.out HB.out)); (case side2 => exact HC0.out); rintro e w' ⟨rfl, ⟨nd, rfl⟩⟩; refine ⟨_, rfl, ?_⟩))
          (try (rw [drewN_self wr]; generalize hq_ : World.drewN wr _ = wr; have n0_ : Aside0 (wr.heap[gb208]? = some (.cells #[.int .i64 a1_0, .int .i64 a1_1, .int .i64 a1_2, .slice (some ad209) l1_3.length c1_3, .int .i64 a1_4, .int .i64 a1_5, .int .i64 a1_6, .int .i64 a1_7, .int .i64 a1_8, .int .i64 a1_9, .int .i64 a1_10, .string a1_11, .string a1_12] 32 (0, 0))) := ⟨by rw [← hq_]; exact (blkS BK208)⟩; have n1_ : Aside0 (Below w.heap.size w wr) := ⟨by rw [← hq_]; exact (bS1 HB GE208)⟩; clear BK208 HB hq_; have BK208 := n0_; have HB := n1_; clear n0_ n1_))
          replace BK208 := Aside0.mk (blk_drew BK208.out)
          replace HB := Aside0.mk (below_drew1 HB.out)
          have p212 : 0 ≤ (t211 : Int) := of_decide_eq_true asmS
          have q212 : t211 < (l0.length : Int) := of_decide_eq_true asmS
          obtain ⟨ad212, A212_3, c212_3, e212, hx212_0, hx212_1, hx212_2, hx212_3, hx212_4, hx212_5, hx212_6, hx212_7, hx212_8, hx212_9, hx212_10, hx212_11, hx212_12, hl212_3, hi212_3⟩ := at_T32 HR0.out t211 p212 q212
          have hw212_12 := hx212_12
          have hw212_11 := hx212_11
          have hw212_10 := hx212_10
          have hw212_9 := hx212_9
          have hw212_8 := hx212_8
          have hw212_7 := hx212_7
          have hw212_6 := hx212_6
          have hw212_5 := hx212_5
          have hw212_4 := hx212_4
          have hw212_3 := hx212_3
          have hw212_2 := hx212_2
          have hw212_1 := hx212_1
          have hw212_0 := hx212_0
          cases e212
          replace hx212_0 := (HB.out.cell (World.block_lt_of_cell? w _ hx212_0)).trans hx212_0
          replace hx212_1 := (HB.out.cell (World.block_lt_of_cell? w _ hx212_1)).trans hx212_1
          replace hx212_2 := (HB.out.cell (World.block_lt_of_cell? w _ hx212_2)).trans hx212_2
          replace hx212_3 := (HB.out.cell (World.block_lt_of_cell? w _ hx212_3)).trans hx212_3
          replace hx212_4 := (HB.out.cell (World.block_lt_of_cell? w _ hx212_4)).trans hx212_4
          replace hx212_5 := (HB.out.cell (World.block_lt_of_cell? w _ hx212_5)).trans hx212_5
          replace hx212_6 := (HB.out.cell (World.block_lt_of_cell? w _ hx212_6)).trans hx212_6
          replace hx212_7 := (HB.out.cell (World.block_lt_of_cell? w _ hx212_7)).trans hx212_7
          replace hx212_8 := (HB.out.cell (World.block_lt_of_cell? w _ hx212_8)).trans hx212_8
          replace hx212_9 := (HB.out.cell (World.block_lt_of_cell? w _ hx212_9)).trans hx212_9
          replace hx212_10 := (HB.out.cell (World.block_lt_of_cell? w _ hx212_10)).trans hx212_10
          replace hx212_11 := (HB.out.cell (World.block_lt_of_cell? w _ hx212_11)).trans hx212_11
          replace hx212_12 := (HB.out.cell (World.block_lt_of_cell? w _ hx212_12)).trans hx212_12
          have HR212_3 := Aside0.mk hi212_3
          have HC212_3 := Aside0.mk hl212_3
          clear hi212_3 hl212_3
          replace p212 := eq_true p212
          replace q212 := eq_true q212
          refine startS (n := 13) (S := fun w' => C13 w' gb208 (.int .i64 a1_0) (.int .i64 a1_1) (.int .i64 a1_2) (.slice (some ad209) l1_3.length c1_3) (.int .i64 a1_4) (.int .i64 a1_5) (.int .i64 a1_6) (.int .i64 a1_7) (.int .i64 a1_8) (.int .i64 a1_9) (.int .i64 a1_10) (.string a1_11) (.string a1_12) (E13e w' (ad212.add ((t211).toNat * 13)) (.int .i64 ((rd_T32 l0 t211).f0.f0)) (.int .i64 ((rd_T32 l0 t211).f0.f1)) (.int .i64 ((rd_T32 l0 t211).f1)) (.slice A212_3 ((rd_T32 l0 t211).f2).length c212_3) (.int .i64 ((rd_T32 l0 t211).f3)) (.int .i64 ((rd_T32 l0 t211).f4.f0)) (.int .i64 ((rd_T32 l0 t211).f4.f1)) (.int .i64 ((rd_T32 l0 t211).f5.f0)) (.int .i64 ((rd_T32 l0 t211).f5.f1)) (.int .i64 ((rd_T32 l0 t211).f6.f0)) (.int .i64 ((rd_T32 l0 t211).f6.f1)) (.string ((rd_T32 l0 t211).f7)) (.string ((rd_T32 l0 t211).f8)))) (ds := []) (c13 BK208 ⟨cS HB hw212_0, cS HB hw212_1, cS HB hw212_2, cS HB hw212_3, cS HB hw212_4, cS HB hw212_5, cS HB hw212_6, cS HB hw212_7, cS HB hw212_8, cS HB hw212_9, cS HB hw212_10, cS HB hw212_11, cS HB hw212_12⟩) (fun hHeld => ?_); refine with_tabW topiaryref07_behind.tab6 topiaryref07_behind.bits6 (fun HT_ HW_ => ?_)
          generalize wr.drew = w20 at BK208 HB HR212_3 hx212_0 hx212_1 hx212_10 hx212_11 hx212_12 hx212_2 hx212_3 hx212_4 hx212_5 hx212_6 hx212_7 hx212_8 hx212_9 hHeld ⊢
          refine pureT (i := 0) (N := some 31) HT_ ?_
          refine pureT (i := 1) (N := some 32) HT_ ?_
          refine pureT (i := 2) (N := some 33) HT_ ?_
          refine pureT (i := 3) (N := some 34) HT_ ?_
          refine pureT (i := 4) (N := some 35) HT_ ?_
          refine pureT (i := 5) (N := some 36) HT_ ?_
          refine pureT (i := 6) (N := some 37) HT_ ?_
          refine pureT (i := 8) (N := some 39) HT_ ?_
          refine takeS (i := 7) (N := some 38) (v := ?_) HT_ HW_ hHeld ?_ ?_
          rotate_left
          ·rintro w' ⟨s0, s1, s2, s3, s4, s5, s6, s7, s8, s9, s10, s11, s12, s13, s14, s15, s16, s17, s18, s19, s20, s21, s22, s23, s24, s25⟩
           go_simp
           with_reducible rfl
          refine normS (N := some 38) ?_
          refine takeS (i := 9) (N := some 40) (v := ?_) HT_ HW_ hHeld ?_ ?_
          rotate_left
          ·rintro w' ⟨s0, s1, s2, s3, s4, s5, s6, s7, s8, s9, s10, s11, s12, s13, s14, s15, s16, s17, s18, s19, s20, s21, s22, s23, s24, s25⟩
           go_simp
           with_reducible rfl
          refine normS (N := some 40) ?_
          refine oneS (i := 10) (N := some 41) HT_ (fun K hK => ?_)
          refine goes_ Try.func60 (by kernel_rfl) rfl #[.agg #[.int .i64 ((rd_T32 l0 t211).f0.f0), .int .i64 ((rd_T32 l0 t211).f0.f1)], .agg #[.int .i64 a1_0, .int .i64 a1_1]] (by rfl) rfl rfl argS ?_
          with_reducible refine (topiaryref01_Less.calls ((rd_T32 l0 t211).f0.f0) ((rd_T32 l0 t211).f0.f1) a1_0 a1_1 false _ A14.out).mono ?_
          rintro e w21 ⟨rfl, hb⟩
          refine ⟨_, rfl, ?_⟩
          replace BK208 := Aside0.mk (blk_below (blkS BK208) hb)
          replace HB := Aside0.mk (below_step (bS1 HB GE208) hb)
          (try clear hb)
          refine hK.out _ _ (c13 BK208 ⟨cS HB hw212_0, cS HB hw212_1, cS HB hw212_2, cS HB hw212_3, cS HB hw212_4, cS HB hw212_5, cS HB hw212_6, cS HB hw212_7, cS HB hw212_8, cS HB hw212_9, cS HB hw212_10, cS HB hw212_11, cS HB hw212_12⟩) (fun hHeld => ?_)
          clear hK K
          refine normS (N := (some 41)) ?_
          refine pureT (i := 11) (N := some 42) HT_ ?_
          refine pureT (i := 12) (N := some 43) HT_ ?_
          refine done_ (done_of HT_.out (by kernel_rfl)) ?_
          try go_wp2
          go_ret
          exact ⟨by first | rfl | (simp [errW_none, errW_some] <;> rfl) | (simp [*, errW_none, errW_some] <;> rfl), bS1 HB GE208⟩
        ·rw [if_neg c13] at H
         exact absurd H (by simp)
       ·rw [if_neg c12] at H
        exact absurd H (by simp)
    ·rw [if_neg c5] at H
     exact absurd H (by simp)
   ·rw [if_neg c4] at H
    have c4b0 : decide (x5_1 < (l1_3.length : Int)) = false := decide_eq_false c4
    clear c4
    replace H := Option.bind_eq_some_iff.mp H
    obtain ⟨t214, A220, H⟩ := H
    replace H : (topiaryref07_behind.l1 k1 l0 t214 0 a1_0 a1_1 a1_2 l1_3 a1_4 a1_5 a1_6 a1_7 a1_8 a1_9 a1_10 a1_11 a1_12) = some r := H
    have A22 := Aside0.mk A220
    clear A220
    have H' := Aside0.mk H
    clear H
    obtain ⟨hcz23_0, hcz23_1, hcz23_2, hcz23_3, hcz23_4, hcz23_5, hcz23_6, hcz23_7, hcz23_8, hcz23_9, hcz23_10, hcz23_11, hcz23_12⟩ := cells13 BK208.out
    go_wp2_with (first | ((with_reducible refine gate_callee (f := 75) rfl ?_); refine goesL_ (some 45) rfl rfl Try.func75 (by kernel_rfl) rfl #[.agg #[.int .i64 a1_0, .int .i64 a1_1, .int .i64 a1_2, .slice A1_3 l1_3.length c1_3, .int .i64 a1_4, .int .i64 a1_5, .int .i64 a1_6, .int .i64 a1_7, .int .i64 a1_8, .int .i64 a1_9, .int .i64 a1_10, .string a1_11, .string a1_12]] rfl argS ?_; (with_reducible refine (topiaryref05_Names.calls k1 a1_0 a1_1 a1_2 _ _ l1_3 a1_4 a1_5 a1_6 a1_7 a1_8 a1_9 a1_10 a1_11 a1_12 t214 _ ?side1 ?side2 A22.out).mono ?_); (case side1 => exact CS (Kd.C_below HR1_3.out HB.out)); (case side2 => exact HC1_3.out); rintro e w24 ⟨v215, rfl, ho0, hb⟩; refine ⟨_, rfl, ?_⟩; have HO216 := Aside0.mk (Kd.R_lower ho0 (below_size (bS1 HB GE208))); replace BK208 := Aside0.mk (blk_below (blkS BK208) hb); replace HB := Aside0.mk (below_step (bS1 HB GE208) hb); (try clear hb); (try clear ho0)))
    go_loopg [8] k1 (fun kq v8 w' => ∃ (x8_2 : Int), v8 = .int .i64 x8_2 ∧ Aside0 (topiaryref07_behind.l1 kq l0 t214 x8_2 a1_0 a1_1 a1_2 l1_3 a1_4 a1_5 a1_6 a1_7 a1_8 a1_9 a1_10 a1_11 a1_12 = some r) ∧ Aside0 (kq ≤ k1) ∧ Aside0 (Kd.R k30 30 w' w.heap.size (fun _ => True) v215 t214) ∧ Aside0 (w'.heap[gb208]? = some (.cells #[.int .i64 a1_0, .int .i64 a1_1, .int .i64 a1_2, (.slice A1_3 l1_3.length c1_3), .int .i64 a1_4, .int .i64 a1_5, .int .i64 a1_6, .int .i64 a1_7, .int .i64 a1_8, .int .i64 a1_9, .int .i64 a1_10, .string a1_11, .string a1_12] 32 (0, 0))) ∧ Aside0 (Below w.heap.size w w'))
    case atStart => exact ⟨(0), (by first | rfl | (simp; done) | (simp [*]; done)), H', ⟨Nat.le_refl _⟩, ⟨by (with_reducible repeat (first | apply Kd.R_alloc | apply Kd.R_drewN | apply Kd.R_drew)); exact HO216.out⟩, ⟨by (with_reducible repeat (first | refine blk_drewN ?_ _ | refine blk_drew ?_ | refine blk_alloc ?_ _)); exact BK208.out⟩, ⟨bS1 HB GE208⟩⟩
    case round =>
     clear H'
     (try clear c1); (try clear c2); (try clear p2); (try clear q2); (try clear hx2); (try clear c4); (try clear c4b0); (try clear c5); (try clear c6); (try clear p6); (try clear c7); (try clear c9); (try clear c9b0); (try clear c12); (try clear c12b0); (try clear c13); (try clear c13b0); (try clear c15); (try clear p20); (try clear q20); (try clear hx20); (try clear c21); (try clear p21); (try clear q21); (try clear hx21); (try clear hcz16_0 hcz16_1 hcz16_10 hcz16_11 hcz16_12 hcz16_2 hcz16_3 hcz16_4 hcz16_5 hcz16_6 hcz16_7 hcz16_8 hcz16_9); (try clear hcz19_0 hcz19_1 hcz19_10 hcz19_11 hcz19_12 hcz19_2 hcz19_3 hcz19_4 hcz19_5 hcz19_6 hcz19_7 hcz19_8 hcz19_9); (try clear hcz23_0 hcz23_1 hcz23_10 hcz23_11 hcz23_12 hcz23_2 hcz23_3 hcz23_4 hcz23_5 hcz23_6 hcz23_7 hcz23_8 hcz23_9); (try clear hfz10_10); (try clear hfz10_11); (try clear hfz10_12); (try clear hfz10_7); (try clear hfz10_8); (try clear hfz10_9); (try clear hfz16_0 hfz16_1 hfz16_10 hfz16_11 hfz16_12 hfz16_2 hfz16_3 hfz16_4 hfz16_5 hfz16_6 hfz16_7 hfz16_8 hfz16_9); (try clear hfz19_0 hfz19_1 hfz19_10 hfz19_11 hfz19_12 hfz19_2 hfz19_3 hfz19_4 hfz19_5 hfz19_6 hfz19_7 hfz19_8 hfz19_9); (try clear hfz23_0 hfz23_1 hfz23_10 hfz23_11 hfz23_12 hfz23_2 hfz23_3 hfz23_4 hfz23_5 hfz23_6 hfz23_7 hfz23_8 hfz23_9); (try clear hx209_0); (try clear hx210_0); (try clear hx212_0); (try clear hx212_1); (try clear hx212_10); (try clear hx212_11); (try clear hx212_12); (try clear hx212_2); (try clear hx212_3); (try clear hx212_4); (try clear hx212_5); (try clear hx212_6); (try clear hx212_7); (try clear hx212_8); (try clear hx212_9); (try clear p209); (try clear p210); (try clear p212); (try clear q209); (try clear q210); (try clear q212)
     obtain ⟨x8_2, rfl, HA, HK2, HO_7, BK208, HB⟩ := hrel
     cases gk with
     | zero => exact absurd HA.out (by simp [topiaryref07_behind.l1])
     | succ k2 =>
      have H := HA.out
      clear HA
      simp only [topiaryref07_behind.l1] at H
      by_cases c25 : x8_2 < (t214.length : Int)
      ·rw [if_pos c25] at H
       have c25b0 : decide (x8_2 < (t214.length : Int)) = true := decide_eq_true c25
       clear c25
       by_cases c26 : 0 ≤ x8_2
       ·rw [if_pos c26] at H
        have c26b0 : decide (0 ≤ x8_2) = true := decide_eq_true c26
        clear c26
        replace H := Option.bind_eq_some_iff.mp H
        obtain ⟨t218, A270, H⟩ := H
        replace H : (if t218 < 0 then (some false) else (if 0 ≤ t218 then (if t218 < (l0.length : Int) then ((topiaryref07_Within.f ((rd_T32 l0 t218).f0.f0) ((rd_T32 l0 t218).f0.f1) ((rd_T32 l0 t218).f1) ((rd_T32 l0 t218).f2) ((rd_T32 l0 t218).f3) ((rd_T32 l0 t218).f4.f0) ((rd_T32 l0 t218).f4.f1) ((rd_T32 l0 t218).f5.f0) ((rd_T32 l0 t218).f5.f1) ((rd_T32 l0 t218).f6.f0) ((rd_T32 l0 t218).f6.f1) ((rd_T32 l0 t218).f7) ((rd_T32 l0 t218).f8) l1_3).bind fun t220 => (if t220 = true then (topiaryref07_behind.l1 k2 l0 t214 (wrap64 (x8_2 + 1)) a1_0 a1_1 a1_2 l1_3 a1_4 a1_5 a1_6 a1_7 a1_8 a1_9 a1_10 a1_11 a1_12) else (some false))) else (none)) else (none))) = some r := H
        have A27 := Aside0.mk A270
        clear A270
        by_cases c28 : t218 < 0
        ·rw [if_pos c28] at H
         have c28b0 : decide (t218 < 0) = true := decide_eq_true c28
         clear c28
         obtain rfl := Option.some.inj H
         obtain ⟨Ao29, co29, eo29⟩ := Kd.R_slice HO_7.out
         subst eo29
         have p217 : 0 ≤ (x8_2 : Int) := of_decide_eq_true asmS
         have q217 : x8_2 < (t214.length : Int) := of_decide_eq_true asmS
         obtain ⟨ad217, e217, hx217_0, hx217_1⟩ := at_T30 (Kd.R_reads' HO_7.out).2.2 x8_2 p217 q217
         cases e217
         replace p217 := eq_true p217
         replace q217 := eq_true q217
         try go_wp2_with (first | ((with_reducible refine gate_callee (f := 57) rfl ?_); refine goesL_ (some 57) rfl rfl Try.func57 (by kernel_rfl) rfl #[.slice A0 l0.length c0, .agg #[.int .i64 ((rd_T30 t214 x8_2).f0), .int .i64 ((rd_T30 t214 x8_2).f1)]] rfl argS ?_; (with_reducible refine (topiaryref07_Find.calls k2 _ _ l0 ((rd_T30 t214 x8_2).f0) ((rd_T30 t214 x8_2).f1) t218 _ ?side1 ?side2 A27.out).mono ?_); (case side1 => exact CS (Kd.C_below HR0.out HB.out)); (case side2 => exact HC0.out); rintro e w30 ⟨rfl, hb⟩; refine ⟨_, rfl, ?_⟩; replace HO_7 := Aside0.mk (Kd.R_below (RS HO_7) hb); replace BK208 := Aside0.mk (blk_below (blkS BK208) hb); replace HB := Aside0.mk (below_step (bS1 HB GE208) hb); (try clear hb)))
         replace HO_7 := Aside0.mk (Kd.R_drew HO_7.out)
         replace BK208 := Aside0.mk (blk_drew BK208.out)
         replace HB := Aside0.mk (below_drew1 HB.out)
         refine start_ (n := 12) (S := fun w' => True) (ds := []) #[false, false, false, false, false, false, false, false, false, false, false, false] (by kernel_rfl) rfl rfl trivial (fun hHeld => ?_); refine with_tabW topiaryref07_behind.tab13 topiaryref07_behind.bits13 (fun HT_ HW_ => ?_)
         generalize w30.drew = w31 at HO_7 BK208 HB hHeld ⊢
         refine pureT (i := 0) (N := some 58) HT_ ?_
         refine pureT (i := 1) (N := some 59) HT_ ?_
         refine pureT (i := 2) (N := some 60) HT_ ?_
         refine pureV (i := 3) (N := some 61) HT_ ?_
         refine pureV (i := 4) (N := some 62) HT_ ?_
         refine pureV (i := 5) (N := some 63) HT_ ?_
         refine pureV (i := 6) (N := some 64) HT_ ?_
         refine pureV (i := 7) (N := some 65) HT_ ?_
         refine pureV (i := 8) (N := some 66) HT_ ?_
         refine pureV (i := 9) (N := some 67) HT_ ?_
         refine pureV (i := 10) (N := some 68) HT_ ?_
         refine pureT (i := 11) (N := some 69) HT_ ?_
         refine done_ (done_of HT_.out (by kernel_rfl)) ?_
         try go_wp2
         go_ret
         exact ⟨by first | rfl | (simp [errW_none, errW_some] <;> rfl) | (simp [*, errW_none, errW_some] <;> rfl), bS1 HB GE208⟩
        ·rw [if_neg c28] at H
         have c28b0 : decide (t218 < 0) = false := decide_eq_false c28
         clear c28
         by_cases c32 : 0 ≤ t218
         ·rw [if_pos c32] at H
          have c32b0 : decide (0 ≤ t218) = true := decide_eq_true c32
          clear c32
          by_cases c33 : t218 < (l0.length : Int)
          ·rw [if_pos c33] at H
           have c33b0 : decide (t218 < (l0.length : Int)) = true := decide_eq_true c33
           clear c33
           replace H := Option.bind_eq_some_iff.mp H
           obtain ⟨t220, A340, H⟩ := H
           replace H : (if t220 = true then (topiaryref07_behind.l1 k2 l0 t214 (wrap64 (x8_2 + 1)) a1_0 a1_1 a1_2 l1_3 a1_4 a1_5 a1_6 a1_7 a1_8 a1_9 a1_10 a1_11 a1_12) else (some false)) = some r := H
           have A34 := Aside0.mk A340
           clear A340
           by_cases c35 : t220 = true
           ·subst c35
            have H1 : (topiaryref07_behind.l1 k2 l0 t214 (wrap64 (x8_2 + 1)) a1_0 a1_1 a1_2 l1_3 a1_4 a1_5 a1_6 a1_7 a1_8 a1_9 a1_10 a1_11 a1_12) = some r := by rw [if_pos rfl] at H; exact H
            clear H
            have H := H1
            clear H1
            have H' := Aside0.mk H
            clear H
            obtain ⟨Ao36, co36, eo36⟩ := Kd.R_slice HO_7.out
            subst eo36
            have p217 : 0 ≤ (x8_2 : Int) := of_decide_eq_true asmS
            have q217 : x8_2 < (t214.length : Int) := of_decide_eq_true asmS
            obtain ⟨ad217, e217, hx217_0, hx217_1⟩ := at_T30 (Kd.R_reads' HO_7.out).2.2 x8_2 p217 q217
            cases e217
            replace p217 := eq_true p217
            replace q217 := eq_true q217
            try go_wp2_with (first | ((with_reducible refine gate_callee (f := 57) rfl ?_); refine goesL_ (some 57) rfl rfl Try.func57 (by kernel_rfl) rfl #[.slice A0 l0.length c0, .agg #[.int .i64 ((rd_T30 t214 x8_2).f0), .int .i64 ((rd_T30 t214 x8_2).f1)]] rfl argS ?_; (with_reducible refine (topiaryref07_Find.calls k2 _ _ l0 ((rd_T30 t214 x8_2).f0) ((rd_T30 t214 x8_2).f1) t218 _ ?side1 ?side2 A27.out).mono ?_); (case side1 => exact CS (Kd.C_below HR0.out HB.out)); (case side2 => exact HC0.out); rintro e w37 ⟨rfl, hb⟩; refine ⟨_, rfl, ?_⟩; replace HO_7 := Aside0.mk (Kd.R_below (RS HO_7) hb); replace BK208 := Aside0.mk (blk_below (blkS BK208) hb); replace HB := Aside0.mk (below_step (bS1 HB GE208) hb); (try clear hb)))
            replace HO_7 := Aside0.mk (Kd.R_drew HO_7.out)
            replace BK208 := Aside0.mk (blk_drew BK208.out)
            replace HB := Aside0.mk (below_drew1 HB.out)
            have p219 : 0 ≤ (t218 : Int) := of_decide_eq_true asmS
            have q219 : t218 < (l0.length : Int) := of_decide_eq_true asmS
            obtain ⟨ad219, A219_3, c219_3, e219, hx219_0, hx219_1, hx219_2, hx219_3, hx219_4, hx219_5, hx219_6, hx219_7, hx219_8, hx219_9, hx219_10, hx219_11, hx219_12, hl219_3, hi219_3⟩ := at_T32 HR0.out t218 p219 q219
            have hw219_12 := hx219_12
            have hw219_11 := hx219_11
            have hw219_10 := hx219_10
            have hw219_9 := hx219_9
            have hw219_8 := hx219_8
            have hw219_7 := hx219_7
            have hw219_6 := hx219_6
            have hw219_5 := hx219_5
            have hw219_4 := hx219_4
            have hw219_3 := hx219_3
            have hw219_2 := hx219_2
            have hw219_1 := hx219_1
            have hw219_0 := hx219_0
            cases e219
            replace hx219_0 := (HB.out.cell (World.block_lt_of_cell? w _ hx219_0)).trans hx219_0
            replace hx219_1 := (HB.out.cell (World.block_lt_of_cell? w _ hx219_1)).trans hx219_1
            replace hx219_2 := (HB.out.cell (World.block_lt_of_cell? w _ hx219_2)).trans hx219_2
            replace hx219_3 := (HB.out.cell (World.block_lt_of_cell? w _ hx219_3)).trans hx219_3
            replace hx219_4 := (HB.out.cell (World.block_lt_of_cell? w _ hx219_4)).trans hx219_4
            replace hx219_5 := (HB.out.cell (World.block_lt_of_cell? w _ hx219_5)).trans hx219_5
            replace hx219_6 := (HB.out.cell (World.block_lt_of_cell? w _ hx219_6)).trans hx219_6
            replace hx219_7 := (HB.out.cell (World.block_lt_of_cell? w _ hx219_7)).trans hx219_7
            replace hx219_8 := (HB.out.cell (World.block_lt_of_cell? w _ hx219_8)).trans hx219_8
            replace hx219_9 := (HB.out.cell (World.block_lt_of_cell? w _ hx219_9)).trans hx219_9
            replace hx219_10 := (HB.out.cell (World.block_lt_of_cell? w _ hx219_10)).trans hx219_10
            replace hx219_11 := (HB.out.cell (World.block_lt_of_cell? w _ hx219_11)).trans hx219_11
            replace hx219_12 := (HB.out.cell (World.block_lt_of_cell? w _ hx219_12)).trans hx219_12
            have HR219_3 := Aside0.mk hi219_3
            have HC219_3 := Aside0.mk hl219_3
            clear hi219_3 hl219_3
            replace p219 := eq_true p219
            replace q219 := eq_true q219
            refine startS (n := 12) (S := fun w' => C13 w' gb208 (.int .i64 a1_0) (.int .i64 a1_1) (.int .i64 a1_2) (.slice A1_3 l1_3.length c1_3) (.int .i64 a1_4) (.int .i64 a1_5) (.int .i64 a1_6) (.int .i64 a1_7) (.int .i64 a1_8) (.int .i64 a1_9) (.int .i64 a1_10) (.string a1_11) (.string a1_12) (E13e w' (ad219.add ((t218).toNat * 13)) (.int .i64 ((rd_T32 l0 t218).f0.f0)) (.int .i64 ((rd_T32 l0 t218).f0.f1)) (.int .i64 ((rd_T32 l0 t218).f1)) (.slice A219_3 ((rd_T32 l0 t218).f2).length c219_3) (.int .i64 ((rd_T32 l0 t218).f3)) (.int .i64 ((rd_T32 l0 t218).f4.f0)) (.int .i64 ((rd_T32 l0 t218).f4.f1)) (.int .i64 ((rd_T32 l0 t218).f5.f0)) (.int .i64 ((rd_T32 l0 t218).f5.f1)) (.int .i64 ((rd_T32 l0 t218).f6.f0)) (.int .i64 ((rd_T32 l0 t218).f6.f1)) (.string ((rd_T32 l0 t218).f7)) (.string ((rd_T32 l0 t218).f8)))) (ds := []) (c13 BK208 ⟨cS HB hw219_0, cS HB hw219_1, cS HB hw219_2, cS HB hw219_3, cS HB hw219_4, cS HB hw219_5, cS HB hw219_6, cS HB hw219_7, cS HB hw219_8, cS HB hw219_9, cS HB hw219_10, cS HB hw219_11, cS HB hw219_12⟩) (fun hHeld => ?_); refine with_tabW topiaryref07_behind.tab13 topiaryref07_behind.bits13 (fun HT_ HW_ => ?_)
            generalize w37.drew = w38 at HO_7 BK208 HB HR219_3 hx219_0 hx219_1 hx219_10 hx219_11 hx219_12 hx219_2 hx219_3 hx219_4 hx219_5 hx219_6 hx219_7 hx219_8 hx219_9 hHeld ⊢
            refine pureT (i := 0) (N := some 58) HT_ ?_
            refine pureT (i := 1) (N := some 59) HT_ ?_
            refine pureT (i := 2) (N := some 60) HT_ ?_
            refine pureT (i := 3) (N := some 61) HT_ ?_
            refine pureT (i := 4) (N := some 62) HT_ ?_
            refine pureT (i := 5) (N := some 63) HT_ ?_
            refine pureT (i := 7) (N := some 65) HT_ ?_
            refine takeS (i := 6) (N := some 64) (v := ?_) HT_ HW_ hHeld ?_ ?_
            rotate_left
            ·rintro w' ⟨s0, s1, s2, s3, s4, s5, s6, s7, s8, s9, s10, s11, s12, s13, s14, s15, s16, s17, s18, s19, s20, s21, s22, s23, s24, s25⟩
             go_simp
             with_reducible rfl
            refine normS (N := some 64) ?_
            refine takeS (i := 8) (N := some 66) (v := ?_) HT_ HW_ hHeld ?_ ?_
            rotate_left
            ·rintro w' ⟨s0, s1, s2, s3, s4, s5, s6, s7, s8, s9, s10, s11, s12, s13, s14, s15, s16, s17, s18, s19, s20, s21, s22, s23, s24, s25⟩
             go_simp
             with_reducible rfl
            refine normS (N := some 66) ?_
            refine oneS (i := 9) (N := some 67) HT_ (fun K hK => ?_)
            refine goes_ Try.func50 (by kernel_rfl) rfl #[.agg #[.int .i64 ((rd_T32 l0 t218).f0.f0), .int .i64 ((rd_T32 l0 t218).f0.f1), .int .i64 ((rd_T32 l0 t218).f1), .slice A219_3 ((rd_T32 l0 t218).f2).length c219_3, .int .i64 ((rd_T32 l0 t218).f3), .int .i64 ((rd_T32 l0 t218).f4.f0), .int .i64 ((rd_T32 l0 t218).f4.f1), .int .i64 ((rd_T32 l0 t218).f5.f0), .int .i64 ((rd_T32 l0 t218).f5.f1), .int .i64 ((rd_T32 l0 t218).f6.f0), .int .i64 ((rd_T32 l0 t218).f6.f1), .string ((rd_T32 l0 t218).f7), .string ((rd_T32 l0 t218).f8)], .slice A1_3 l1_3.length c1_3] (by rfl) rfl rfl argS ?_
            with_reducible refine (topiaryref07_Within.calls ((rd_T32 l0 t218).f0.f0) ((rd_T32 l0 t218).f0.f1) ((rd_T32 l0 t218).f1) _ _ ((rd_T32 l0 t218).f2) ((rd_T32 l0 t218).f3) ((rd_T32 l0 t218).f4.f0) ((rd_T32 l0 t218).f4.f1) ((rd_T32 l0 t218).f5.f0) ((rd_T32 l0 t218).f5.f1) ((rd_T32 l0 t218).f6.f0) ((rd_T32 l0 t218).f6.f1) ((rd_T32 l0 t218).f7) ((rd_T32 l0 t218).f8) _ _ l1_3 true _ ?side1 ?side2 ?side3 ?side4 A34.out).mono ?_
            (case side1 => exact CS (Kd.C_below HR219_3.out HB.out))
            (case side2 => exact HC219_3.out)
            (case side3 => exact CS (Kd.C_below HR1_3.out HB.out))
            (case side4 => exact HC1_3.out)
            rintro e w39 ⟨rfl, hb⟩
            refine ⟨_, rfl, ?_⟩
            replace HO_7 := Aside0.mk (Kd.R_below (RS HO_7) hb)
            replace BK208 := Aside0.mk (blk_below (blkS BK208) hb)
            replace HB := Aside0.mk (below_step (bS1 HB GE208) hb)
            (try clear hb)
            refine hK.out _ _ (c13 BK208 ⟨cS HB hw219_0, cS HB hw219_1, cS HB hw219_2, cS HB hw219_3, cS HB hw219_4, cS HB hw219_5, cS HB hw219_6, cS HB hw219_7, cS HB hw219_8, cS HB hw219_9, cS HB hw219_10, cS HB hw219_11, cS HB hw219_12⟩) (fun hHeld => ?_)
            clear hK K
            refine normS (N := (some 67)) ?_
            refine pureT (i := 10) (N := some 68) HT_ ?_
            refine pureT (i := 11) (N := some 69) HT_ ?_
            refine done_ (done_of HT_.out (by kernel_rfl)) ?_
            try go_wp2
            go_roundg k2
            case measure => have := HK1.out; have := HK2.out; omega
            case rel => exact ⟨(wrap64 (x8_2 + 1)), (by first | rfl | (simp; done) | (simp [*]; done)), H', ⟨by have := HK1.out; have := HK2.out; omega⟩, ⟨by (with_reducible repeat (first | apply Kd.R_alloc | apply Kd.R_drewN | apply Kd.R_drew)); exact HO_7.out⟩, ⟨by (with_reducible repeat (first | refine blk_drewN ?_ _ | refine blk_drew ?_ | refine blk_alloc ?_ _)); exact BK208.out⟩, ⟨bS1 HB GE208⟩⟩
           ·replace c35 := Bool.eq_false_iff.mpr c35
            subst c35
            have H1 : (some false) = some r := by rw [if_neg (show ¬ (false = true) by decide)] at H; exact H
            clear H
            have H := H1
            clear H1
            obtain rfl := Option.some.inj H
            obtain ⟨Ao40, co40, eo40⟩ := Kd.R_slice HO_7.out
            subst eo40
            have p217 : 0 ≤ (x8_2 : Int) := of_decide_eq_true asmS
            have q217 : x8_2 < (t214.length : Int) := of_decide_eq_true asmS
            obtain ⟨ad217, e217, hx217_0, hx217_1⟩ := at_T30 (Kd.R_reads' HO_7.out).2.2 x8_2 p217 q217
            cases e217
            replace p217 := eq_true p217
            replace q217 := eq_true q217
            try go_wp2_with (first | ((with_reducible refine gate_callee (f := 57) rfl ?_); refine goesL_ (some 57) rfl rfl Try.func57 (by kernel_rfl) rfl #[.slice A0 l0.length c0, .agg #[.int .i64 ((rd_T30 t214 x8_2).f0), .int .i64 ((rd_T30 t214 x8_2).f1)]] rfl argS ?_; (with_reducible refine (topiaryref07_Find.calls k2 _ _ l0 ((rd_T30 t214 x8_2).f0) ((rd_T30 t214 x8_2).f1) t218 _ ?side1 ?side2 A27.out).mono ?_); (case side1 => exact CS (Kd.C_below HR0.out HB.out)); (case side2 => exact HC0.out); rintro e w41 ⟨rfl, hb⟩; refine ⟨_, rfl, ?_⟩; replace HO_7 := Aside0.mk (Kd.R_below (RS HO_7) hb); replace BK208 := Aside0.mk (blk_below (blkS BK208) hb); replace HB := Aside0.mk (below_step (bS1 HB GE208) hb); (try clear hb)))
            replace HO_7 := Aside0.mk (Kd.R_drew HO_7.out)
            replace BK208 := Aside0.mk (blk_drew BK208.out)
            replace HB := Aside0.mk (below_drew1 HB.out)
            have p219 : 0 ≤ (t218 : Int) := of_decide_eq_true asmS
            have q219 : t218 < (l0.length : Int) := of_decide_eq_true asmS
            obtain ⟨ad219, A219_3, c219_3, e219, hx219_0, hx219_1, hx219_2, hx219_3, hx219_4, hx219_5, hx219_6, hx219_7, hx219_8, hx219_9, hx219_10, hx219_11, hx219_12, hl219_3, hi219_3⟩ := at_T32 HR0.out t218 p219 q219
            have hw219_12 := hx219_12
            have hw219_11 := hx219_11
            have hw219_10 := hx219_10
            have hw219_9 := hx219_9
            have hw219_8 := hx219_8
            have hw219_7 := hx219_7
            have hw219_6 := hx219_6
            have hw219_5 := hx219_5
            have hw219_4 := hx219_4
            have hw219_3 := hx219_3
            have hw219_2 := hx219_2
            have hw219_1 := hx219_1
            have hw219_0 := hx219_0
            cases e219
            replace hx219_0 := (HB.out.cell (World.block_lt_of_cell? w _ hx219_0)).trans hx219_0
            replace hx219_1 := (HB.out.cell (World.block_lt_of_cell? w _ hx219_1)).trans hx219_1
            replace hx219_2 := (HB.out.cell (World.block_lt_of_cell? w _ hx219_2)).trans hx219_2
            replace hx219_3 := (HB.out.cell (World.block_lt_of_cell? w _ hx219_3)).trans hx219_3
            replace hx219_4 := (HB.out.cell (World.block_lt_of_cell? w _ hx219_4)).trans hx219_4
            replace hx219_5 := (HB.out.cell (World.block_lt_of_cell? w _ hx219_5)).trans hx219_5
            replace hx219_6 := (HB.out.cell (World.block_lt_of_cell? w _ hx219_6)).trans hx219_6
            replace hx219_7 := (HB.out.cell (World.block_lt_of_cell? w _ hx219_7)).trans hx219_7
            replace hx219_8 := (HB.out.cell (World.block_lt_of_cell? w _ hx219_8)).trans hx219_8
            replace hx219_9 := (HB.out.cell (World.block_lt_of_cell? w _ hx219_9)).trans hx219_9
            replace hx219_10 := (HB.out.cell (World.block_lt_of_cell? w _ hx219_10)).trans hx219_10
            replace hx219_11 := (HB.out.cell (World.block_lt_of_cell? w _ hx219_11)).trans hx219_11
            replace hx219_12 := (HB.out.cell (World.block_lt_of_cell? w _ hx219_12)).trans hx219_12
            have HR219_3 := Aside0.mk hi219_3
            have HC219_3 := Aside0.mk hl219_3
            clear hi219_3 hl219_3
            replace p219 := eq_true p219
            replace q219 := eq_true q219
            refine startS (n := 12) (S := fun w' => C13 w' gb208 (.int .i64 a1_0) (.int .i64 a1_1) (.int .i64 a1_2) (.slice A1_3 l1_3.length c1_3) (.int .i64 a1_4) (.int .i64 a1_5) (.int .i64 a1_6) (.int .i64 a1_7) (.int .i64 a1_8) (.int .i64 a1_9) (.int .i64 a1_10) (.string a1_11) (.string a1_12) (E13e w' (ad219.add ((t218).toNat * 13)) (.int .i64 ((rd_T32 l0 t218).f0.f0)) (.int .i64 ((rd_T32 l0 t218).f0.f1)) (.int .i64 ((rd_T32 l0 t218).f1)) (.slice A219_3 ((rd_T32 l0 t218).f2).length c219_3) (.int .i64 ((rd_T32 l0 t218).f3)) (.int .i64 ((rd_T32 l0 t218).f4.f0)) (.int .i64 ((rd_T32 l0 t218).f4.f1)) (.int .i64 ((rd_T32 l0 t218).f5.f0)) (.int .i64 ((rd_T32 l0 t218).f5.f1)) (.int .i64 ((rd_T32 l0 t218).f6.f0)) (.int .i64 ((rd_T32 l0 t218).f6.f1)) (.string ((rd_T32 l0 t218).f7)) (.string ((rd_T32 l0 t218).f8)))) (ds := []) (c13 BK208 ⟨cS HB hw219_0, cS HB hw219_1, cS HB hw219_2, cS HB hw219_3, cS HB hw219_4, cS HB hw219_5, cS HB hw219_6, cS HB hw219_7, cS HB hw219_8, cS HB hw219_9, cS HB hw219_10, cS HB hw219_11, cS HB hw219_12⟩) (fun hHeld => ?_); refine with_tabW topiaryref07_behind.tab13 topiaryref07_behind.bits13 (fun HT_ HW_ => ?_)
            generalize w41.drew = w42 at HO_7 BK208 HB HR219_3 hx219_0 hx219_1 hx219_10 hx219_11 hx219_12 hx219_2 hx219_3 hx219_4 hx219_5 hx219_6 hx219_7 hx219_8 hx219_9 hHeld ⊢
            refine pureT (i := 0) (N := some 58) HT_ ?_
            refine pureT (i := 1) (N := some 59) HT_ ?_
            refine pureT (i := 2) (N := some 60) HT_ ?_
            refine pureT (i := 3) (N := some 61) HT_ ?_
            refine pureT (i := 4) (N := some 62) HT_ ?_
            refine pureT (i := 5) (N := some 63) HT_ ?_
            refine pureT (i := 7) (N := some 65) HT_ ?_
            refine takeS (i := 6) (N := some 64) (v := ?_) HT_ HW_ hHeld ?_ ?_
            rotate_left
            ·rintro w' ⟨s0, s1, s2, s3, s4, s5, s6, s7, s8, s9, s10, s11, s12, s13, s14, s15, s16, s17, s18, s19, s20, s21, s22, s23, s24, s25⟩
             go_simp
             with_reducible rfl
            refine normS (N := some 64) ?_
            refine takeS (i := 8) (N := some 66) (v := ?_) HT_ HW_ hHeld ?_ ?_
            rotate_left
            ·rintro w' ⟨s0, s1, s2, s3, s4, s5, s6, s7, s8, s9, s10, s11, s12, s13, s14, s15, s16, s17, s18, s19, s20, s21, s22, s23, s24, s25⟩
             go_simp
             with_reducible rfl
            refine normS (N := some 66) ?_
            refine oneS (i := 9) (N := some 67) HT_ (fun K hK => ?_)
            refine goes_ Try.func50 (by kernel_rfl) rfl #[.agg #[.int .i64 ((rd_T32 l0 t218).f0.f0), .int .i64 ((rd_T32 l0 t218).f0.f1), .int .i64 ((rd_T32 l0 t218).f1), .slice A219_3 ((rd_T32 l0 t218).f2).length c219_3, .int .i64 ((rd_T32 l0 t218).f3), .int .i64 ((rd_T32 l0 t218).f4.f0), .int .i64 ((rd_T32 l0 t218).f4.f1), .int .i64 ((rd_T32 l0 t218).f5.f0), .int .i64 ((rd_T32 l0 t218).f5.f1), .int .i64 ((rd_T32 l0 t218).f6.f0), .int .i64 ((rd_T32 l0 t218).f6.f1), .string ((rd_T32 l0 t218).f7), .string ((rd_T32 l0 t218).f8)], .slice A1_3 l1_3.length c1_3] (by rfl) rfl rfl argS ?_
            with_reducible refine (topiaryref07_Within.calls ((rd_T32 l0 t218).f0.f0) ((rd_T32 l0 t218).f0.f1) ((rd_T32 l0 t218).f1) _ _ ((rd_T32 l0 t218).f2) ((rd_T32 l0 t218).f3) ((rd_T32 l0 t218).f4.f0) ((rd_T32 l0 t218).f4.f1) ((rd_T32 l0 t218).f5.f0) ((rd_T32 l0 t218).f5.f1) ((rd_T32 l0 t218).f6.f0) ((rd_T32 l0 t218).f6.f1) ((rd_T32 l0 t218).f7) ((rd_T32 l0 t218).f8) _ _ l1_3 false _ ?side1 ?side2 ?side3 ?side4 A34.out).mono ?_
            (case side1 => exact CS (Kd.C_below HR219_3.out HB.out))
            (case side2 => exact HC219_3.out)
            (case side3 => exact CS (Kd.C_below HR1_3.out HB.out))
            (case side4 => exact HC1_3.out)
            rintro e w43 ⟨rfl, hb⟩
            refine ⟨_, rfl, ?_⟩
            replace HO_7 := Aside0.mk (Kd.R_below (RS HO_7) hb)
            replace BK208 := Aside0.mk (blk_below (blkS BK208) hb)
            replace HB := Aside0.mk (below_step (bS1 HB GE208) hb)
            (try clear hb)
            refine hK.out _ _ (c13 BK208 ⟨cS HB hw219_0, cS HB hw219_1, cS HB hw219_2, cS HB hw219_3, cS HB hw219_4, cS HB hw219_5, cS HB hw219_6, cS HB hw219_7, cS HB hw219_8, cS HB hw219_9, cS HB hw219_10, cS HB hw219_11, cS HB hw219_12⟩) (fun hHeld => ?_)
            clear hK K
            refine normS (N := (some 67)) ?_
            refine pureT (i := 10) (N := some 68) HT_ ?_
            refine pureT (i := 11) (N := some 69) HT_ ?_
            refine done_ (done_of HT_.out (by kernel_rfl)) ?_
            try go_wp2
            go_ret
            exact ⟨by first | rfl | (simp [errW_none, errW_some] <;> rfl) | (simp [*, errW_none, errW_some] <;> rfl), bS1 HB GE208⟩
          ·rw [if_neg c33] at H
           exact absurd H (by simp)
         ·rw [if_neg c32] at H
          exact absurd H (by simp)
       ·rw [if_neg c26] at H
        exact absurd H (by simp)
      ·rw [if_neg c25] at H
       have c25b0 : decide (x8_2 < (t214.length : Int)) = false := decide_eq_false c25
       clear c25
       obtain rfl := Option.some.inj H
       obtain ⟨Ao44, co44, eo44⟩ := Kd.R_slice HO_7.out
       subst eo44
       go_wp2
       go_ret
       exact ⟨by first | rfl | (simp [errW_none, errW_some] <;> rfl) | (simp [*, errW_none, errW_some] <;> rfl), bS1 HB GE208⟩
end Go.Proofs.Ytnopjjilpgekfaa.PCa
namespace Go.Proofs.Ytnopjjilpgekfaa.PCa
open Go.RowKit Go.Proofs.YtnopjjilpgekfaaW.PrintWords Go.Proofs.YtnopjjilpgekfaaW.PrintLast Go.Proofs.YtnopjjilpgekfaaW.PrintMore
set_option linter.unusedVariables false
set_option linter.unusedSimpArgs false
/-- The blocks S may have been written, new ones laid; all else is as it was. -/
structure Kept (w W : World) (S : Nat → Prop) : Prop where
 size : w.heap.size ≤ W.heap.size
 block : ∀ i, i < w.heap.size → ¬ S i → W.heap[i]? = w.heap[i]?
 os : W.os = w.os
 tape : W.tape = w.tape
 output : W.output = w.output
section
variable {w W W2 : World} {S S2 S' : Nat → Prop}
theorem Kept.old (h : Kept w W S) : Go.Proofs.YtnopjjilpgekfaaW.PrintWords.Kept w W S := ⟨h.size, h.block⟩
theorem Kept.refl (w : World) (S : Nat → Prop) : Kept w w S := ⟨Nat.le_refl _, fun _ _ _ => rfl, rfl, rfl, rfl⟩
theorem Kept.of_below (h : Below w.heap.size w W) (S : Nat → Prop) : Kept w W S := ⟨h.size, fun i hi _ => h.block i hi, h.os, h.tape, h.output⟩
theorem Kept.mono (h : Kept w W S) (hs : ∀ k, S k → S' k) : Kept w W S' := ⟨h.size, fun i hi hn => h.block i hi (fun hk => hn (hs i hk)), h.os, h.tape, h.output⟩
theorem Kept.then_ (h : Kept w W S) (k : Kept W W2 S2) (hs : ∀ k, S2 k → S k ∨ w.heap.size ≤ k) : Kept w W2 S :=
 ⟨Nat.le_trans h.size k.size, fun i hi hn => (k.block i (Nat.lt_of_lt_of_le hi h.size) (fun h2 => (hs i h2).elim hn (fun h3 => by omega))).trans (h.block i hi hn), k.os.trans h.os, k.tape.trans h.tape, k.output.trans h.output⟩
theorem Kept.of_grown {row : Option Nat} (hg : W.grownBy W2 row) (h : Kept w W S) (hr : ∀ k, row = some k → S k ∨ w.heap.size ≤ k) : Kept w W2 S :=
 h.then_ (S2 := fun k => row = some k) ⟨hg.size, fun i hi hn => hg.block i hi (fun he => hn he.symm), hg.os, hg.tape, hg.output⟩ hr
theorem Kept.below (h : Kept w W S) (hb : Below W.heap.size W W2) : Kept w W2 S := h.then_ (Kept.of_below hb (fun _ => False)) (fun _ hk => hk.elim)
theorem Kept.alloc (h : Kept w W S) (o : Obj) : Kept w (W.alloc o) S := h.below (below_alloc (Below.refl _ _) o)
theorem Kept.drew (h : Kept w W S) : Kept w W.drew S := ⟨h.size, h.block, h.os, h.tape, h.output⟩
theorem Kept.setCell (h : Kept w W S) {p : Addr} (hp : S p.block ∨ w.heap.size ≤ p.block) (u : Value) : Kept w (W.setCell p u) S :=
 h.then_ (S2 := fun k => k = p.block) ⟨by simp [World.setCell], fun i _ hn => Below.heap_setCell W p u i hn, rfl, rfl, rfl⟩ (fun k hk => by rw [hk]; exact hp)
/-- Where nothing of old was written. -/
theorem Kept.to_below (h : Kept w W S) (hS : ∀ k, S k → w.heap.size ≤ k) : Below w.heap.size w W := ⟨h.os, h.tape, h.output, h.size, fun k hk => h.block k hk (fun hs => by have := hS k hs; omega)⟩
theorem Kd.R_kept {α : Type} {d : Kd α} {e base : Nat} {ok : Nat → Prop} {v : Value} {xs : List α} (h : d.R e W base ok v xs) (hk : Kept W W2 S) (hne : ∀ k, ok k → ¬ S k) : d.R e W2 base ok v xs := Go.Proofs.YtnopjjilpgekfaaW.PrintWords.Kd.R_kept h hk.old hne
theorem Kd.V_kept {α : Type} {d : Kd α} {e base : Nat} {ok : Nat → Prop} {v : Value} {xs : List α} (h : Kd.V d e W base ok v xs) (hk : Kept W W2 S) (hne : ∀ k, ok k → ¬ S k) : Kd.V d e W2 base ok v xs := Go.Proofs.YtnopjjilpgekfaaW.PrintWords.Kd.V_kept h hk.old hne
end
section
variable {α : Type} {d : Kd α} {e : Nat} {w w1 : World} {base : Nat} {ok ok' okr : Nat → Prop} {v v1 : Value} {xs ys : List α} {rows : List (List Value)}
/-- A row as its elements' cells. -/
theorem R_rows (h : d.R e w base ok v xs) : ∃ rows : List (List Value), rows.length = xs.length ∧ (Kd.raw d.sz).R e w base (fun k => some k = v.ownBlock) v rows ∧
  ∀ (j : Nat) (p : α) (c : List Value), xs[j]? = some p → rows[j]? = some c → d.M w base (fun k => ok k ∧ some k ≠ v.ownBlock) p c := by
 obtain ⟨h0, inner, ho, hr⟩ := h
 have hat : ∀ j, j < xs.length → ((List.range xs.length).map fun j => (inner.drop (j * d.sz)).take d.sz)[j]? = some ((inner.drop (j * d.sz)).take d.sz) := fun j hj => by
  rw [List.getElem?_map, List.getElem?_eq_getElem (by rw [List.length_range]; exact hj), List.getElem_range]
  rfl
 refine ⟨(List.range xs.length).map fun j => (inner.drop (j * d.sz)).take d.sz, by rw [List.length_map, List.length_range], ⟨fun k hk => hk.symm, inner, by rw [List.length_map, List.length_range]; exact ho, by rw [List.length_map, List.length_range]; exact hr.1, fun j p hj => ?_⟩, fun j p c hp hc => ?_⟩
 ·have hl : j < xs.length := by
   have := (List.getElem?_eq_some_iff.1 hj).1
   rwa [List.length_map, List.length_range] at this
  rw [hat j hl] at hj
  injection hj with hj
  subst hj
  have hm := hr.2 j _ (List.getElem?_eq_getElem hl)
  exact ⟨rfl, d.K_len (d.K_of_M hm), d.K_one (d.K_of_M hm)⟩
 ·rw [hat j (List.getElem?_eq_some_iff.1 hp).1] at hc
  injection hc with hc
  subst hc
  exact hr.2 j p hp
theorem rows_R (h : (Kd.raw d.sz).R e w base okr v rows) (hl : rows.length = ys.length) (hok : ∀ k, v.ownBlock = some k → ok k)
  (hM : ∀ (j : Nat) (p : α) (c : List Value), ys[j]? = some p → rows[j]? = some c → d.M w base (fun k => ok k ∧ some k ≠ v.ownBlock) p c) : d.R e w base ok v ys := by
 obtain ⟨_, inner, ho, hr⟩ := h
 refine ⟨hok, inner, by rw [← hl]; exact ho, by rw [← hl]; exact hr.1, fun j p hp => ?_⟩
 have hj : j < rows.length := by rw [hl]; exact (List.getElem?_eq_some_iff.1 hp).1
 have hc := hr.2 j _ (List.getElem?_eq_getElem hj)
 have := hM j p _ hp (List.getElem?_eq_getElem hj)
 rw [← hc.1] at this
 exact this
/-- A list with tags: the tags tell the owner. -/
theorem S_of_tags {f : Nat → Nat} {zs : List (α × Nat)} (h : (Kd.tag f d).R e w base ok v zs) (hn : (zs.map Prod.snd).Nodup) : Kd.S d e w base ok v (zs.map Prod.fst) := by
 refine ⟨fun k => (zs.map Prod.snd).idxOf (f k), ?_⟩
 obtain ⟨rows, hl, hr, hM⟩ := R_rows h
 refine rows_R (ok := ok) hr (by rw [List.length_zipIdx, List.length_map, hl]) h.1 (fun j p c hp hc => ?_)
 rw [List.getElem?_zipIdx, Nat.zero_add, List.getElem?_map] at hp
 cases hz : zs[j]? with
 | none => rw [hz] at hp; cases hp
 | some z =>
  rw [hz] at hp
  injection hp with hp
  subst hp
  have hj : j < zs.length := (List.getElem?_eq_some_iff.1 hz).1
  have hz' : zs[j] = z := (List.getElem?_eq_some_iff.1 hz).2
  have hm := hM j z c hz hc
  refine d.M_mono (fun k hk => ⟨hk.1, ?_⟩) hm
  show (zs.map Prod.snd).idxOf (f k) = j
  rw [hk.2, ← hz']
  have hjm : j < (zs.map Prod.snd).length := by rw [List.length_map]; exact hj
  have : (zs.map Prod.snd)[j] = zs[j].2 := List.getElem_map _
  rw [← this]
  exact List.Nodup.idxOf_getElem hn j hjm
theorem zip_nodup (xs : List α) (n : Nat) : ((xs.zipIdx n).map Prod.snd).Nodup := by
 rw [List.zipIdx_map_snd]
 exact List.nodup_range'
end
end Go.Proofs.Ytnopjjilpgekfaa.PCa
namespace Go.Proofs.Ytnopjjilpgekfaa.PCa
open Go.RowKit Go.Proofs.YtnopjjilpgekfaaW.PrintWords Go.Proofs.YtnopjjilpgekfaaW.PrintLast Go.Proofs.YtnopjjilpgekfaaW.PrintMore
attribute [local go_sem] max2_int min2_int max_two min_two max_three min_three max_four min_four
set_option linter.unusedVariables false
set_option linter.unusedSimpArgs false
def delr.T5 : Bool × List (List Nat × List Nat) := (true, [([], []), ([], []), ([0, 1], [0, 1]), ([], []), ([], []), ([3, 4], [3, 4]), ([2, 5], [2, 5]), ([6, 6, 0, 1, 2, 3, 4, 5, 6], [0, 3, 6])])
def delr.B5 : List Nat := [0, 0, 3, 0, 0, 24, 63, 127]
theorem delr.tab5 : rtab .any (opsOf Try.f74 5) = delr.T5 := by kernel_rfl
theorem delr.bits5 : waitsOk delr.T5.2 delr.B5 = true := by kernel_rfl
theorem run_copy_wide {P : Program} (w : World) (dT sT ty elem : TypeId) (sz g o dLen dCap : Nat) (a : Addr) (sLen sCap : Nat) (cur : Array Value) (t : TypeId) (cs : List Value)
  (hu : P.underlying dT = some (.slice elem)) (hs : (P.info? elem).map (·.size) = some sz)
  (hg : w.heap[g]? = some (.cells cur t (0, 0))) (hn : cs.length = Nat.min sLen dLen * sz)
  (hsrc : ∀ j v, cs[j]? = some v → w.cell? (a.add j) = some v) (hfit : o + cs.length ≤ cur.size) (h1 : ∀ v ∈ cs, v.oneCell' = true) :
  (Builtin.copy_ #[dT, sT] ty #[.slice (some ⟨g, o, none⟩) dLen dCap, .slice (some a) sLen sCap]).run P w =
   .ok (goInt (Nat.min sLen dLen)) (w.setRow g (cur.toList.take o ++ cs ++ cur.toList.drop (o + cs.length)).toArray) := by
 have hl := run_loadCells_list (P := P) w a cs hsrc
 have hst := run_storeCells_at P g o t cs 0 cur w hg (by simpa using hfit) h1
 cases hq : P.info? elem with
 | none => simp [hq] at hs
 | some i =>
  have hi : i.size = sz := by simpa [hq] using hs
  rw [hn] at hl hst
  simp [Builtin.copy_, run_underlying hu, Builtin.lenOf, Builtin.firstCells, sizeOf, typeInfo, hq, hi, hn, hl, hst]
/-- What lies behind a row's elements may be written. -/
theorem R_spare {α : Type} {d : Kd α} {e : Nat} {w : World} {base : Nat} {ok : Nat → Prop} {g m c : Nat} {xs : List α} (h : d.R e w base ok (.slice (some ⟨g, 0, none⟩) m c) xs) (cs : List Value) (o : Nat) (ho : m * d.sz ≤ o) (hc : o + cs.length ≤ c * d.sz) (h1 : ∀ v ∈ cs, v.oneCell' = true) (P : Program) :
  ∃ w1, (storeCells ⟨g, o, none⟩ cs).run P w = .ok () w1 ∧ d.R e w1 base ok (.slice (some ⟨g, 0, none⟩) m c) xs ∧ w.grownBy w1 (some g) := by
 have hm := (Kd.R_reads' h).1
 obtain ⟨h0, inner, hown, hr⟩ := h
 rcases hown.2 with ⟨hv, _⟩ | ⟨g', cap', cur, hv, hb, hh, hnc, hcm, hcs, htake⟩
 ·cases hv
 injection hv with ha' hm' hc'
 injection ha' with ha'
 injection ha' with hg
 subst hg; subst hc'
 have hfit : o + 0 + cs.length ≤ cur.size := by omega
 have hrun := run_storeCells_at P g o e cs 0 cur w hh hfit h1
 refine ⟨_, hrun, ⟨h0, inner, ⟨hown.1, .inr ⟨g, c, _, by rw [← hm], hb, setRow_heap w g cur _ e (0, 0) hh, hnc, hcm, ?_, ?_⟩⟩, ?_⟩, ⟨rfl, rfl, rfl, by simp [World.setRow], fun k hk hne => setRow_other w g k _ (fun e => hne (by rw [e]))⟩⟩
 ·simp
  omega
 ·rw [← htake]
  have hlen : cur.toList.length = c * d.sz := by simpa using hcs
  simp only [Nat.add_zero, List.append_assoc]
  rw [List.take_append_of_le_length (by rw [List.length_take, hlen, ← hm]; omega), List.take_take, Nat.min_eq_left (by rw [← hm]; exact ho)]
 ·refine hr.imp_ (fun p q hp => d.M_move (fun k' hk' => setRow_other w g k' _ (fun e => hk'.2 (by simp [Value.ownBlock, e]))) hp)
theorem grown_trans {w w1 w2 : World} {r : Option Nat} (h : w.grownBy w1 r) (h2 : w1.grownBy w2 r) : w.grownBy w2 r :=
 ⟨h2.os.trans h.os, h2.tape.trans h.tape, h2.output.trans h.output, Nat.le_trans h.size h2.size, fun k hk hn => (h2.block k (Nat.lt_of_lt_of_le hk h.size) hn).trans (h.block k hk hn)⟩
theorem grown_drew (w : World) (r : Option Nat) : w.grownBy w.drew r := ⟨rfl, rfl, rfl, Nat.le_refl _, fun _ _ _ => rfl⟩
theorem zero32_len : (Builtin.zeroCells (Value.agg #[(.int .i64 0), (.int .i64 0), (.int .i64 0), (.slice none 0 0), (.int .i64 0), (.int .i64 0), (.int .i64 0), (.int .i64 0), (.int .i64 0), (.int .i64 0), (.int .i64 0), (.string ⟨#[]⟩), (.string ⟨#[]⟩)]).cells 1).toList = [(.int .i64 0), (.int .i64 0), (.int .i64 0), (.slice none 0 0), (.int .i64 0), (.int .i64 0), (.int .i64 0), (.int .i64 0), (.int .i64 0), (.int .i64 0), (.int .i64 0), (.string ⟨#[]⟩), (.string ⟨#[]⟩)] := by kernel_rfl
theorem clear_one {α : Type} {d : Kd α} (hd : d.sz = 13) {w : World} {base g n c i : Nat} {ok : Nat → Prop} {xs : List α} (h : d.R 32 w base ok (.slice (some ⟨g, 0, none⟩) (n - 1) c) xs) (hi : i < n) (hnc : n ≤ c) :
  ∃ w2, (∀ ty cc, (Builtin.clear_ #[22] ty #[.slice (some ⟨g, (n - 1) * 13, none⟩) 1 cc]).run Try.prog w = .ok (.tuple #[]) w2) ∧ d.R 32 w2 base ok (.slice (some ⟨g, 0, none⟩) (n - 1) c) xs ∧ w.grownBy w2 (some g) := by
 obtain ⟨w2, h1, h2, h3⟩ := R_spare h [(.int .i64 0), (.int .i64 0), (.int .i64 0), (.slice none 0 0), (.int .i64 0), (.int .i64 0), (.int .i64 0), (.int .i64 0), (.int .i64 0), (.int .i64 0), (.int .i64 0), (.string ⟨#[]⟩), (.string ⟨#[]⟩)] ((n - 1) * 13) (by rw [hd]; exact Nat.le_refl _) (by rw [hd]; simp only [List.length_cons, List.length_nil]; omega) (by decide) Try.prog
 refine ⟨w2, fun ty cc => ?_, h2, h3⟩
 obtain ⟨i0, hi0, hzz⟩ := Option.map_eq_some_iff.1 info32
 simp only [Prod.mk.injEq] at hzz
 have hz := zero32_len
 simp [Builtin.clear_, run_underlying Try.underlying22, zeroValue, typeInfo, hi0, hzz.1, hz, h1]
set_option maxHeartbeats 4000000 in
set_option maxRecDepth 100000 in
theorem delete_calls {α : Type} {d : Kd α} (hd : d.sz = 13) {w : World} {base g n c i : Nat} {ok : Nat → Prop} {xs : List α} (h : d.R 32 w base ok (.slice (some ⟨g, 0, none⟩) n c) xs) (hi : i < n) (hn : n < 100000) :
  Calls Try.prog 74 #[.slice (some ⟨g, 0, none⟩) n c, .int .i64 (i : Int), .int .i64 ((i + 1 : Nat) : Int)] w fun e w' => e = .returned (.slice (some ⟨g, 0, none⟩) (n - 1) c) ∧ d.R 32 w' base ok (.slice (some ⟨g, 0, none⟩) (n - 1) c) (xs.eraseIdx i) ∧ w.grownBy w' (some g) := by
 have hnc := (Kd.R_reads' h).2.1
 have HR := Aside0.mk h
 have c1 : ((i : Int) == (i : Int) + 1) = false := by rw [beq_eq_false_iff_ne]; omega
 have b1 : (0 ≤ (i : Int)) = True := eq_true (by omega)
 have b2 : ((i : Int) ≤ (i : Int) + 1) = True := eq_true (by omega)
 have b8 : (n = i) = False := eq_false (by omega)
 have b7 : (0 ≤ (i : Int) + 1) = True := eq_true (by omega)
 have b3 : ((i : Int) + 1 ≤ (n : Int)) = True := eq_true (by omega)
 have b4 : ((n : Int) ≤ (c : Int)) = True := eq_true (by omega)
 have hbs : base ≤ w.heap.size := by
  obtain ⟨_, hown⟩ := Kd.R_own h
  have := own_base hown g rfl
  have := own_lt hown g rfl
  omega
 have HBS := Aside0.mk hbs
 have b5 : (i ≤ c) = True := eq_true (by omega)
 have b6 : (n - 1 ≤ n) = True := eq_true (by omega)
 have HI := Aside0.mk hi
 have HN := Aside0.mk hn
 clear h hbs hi hn
 go_enter Try.func74, Try.ntmps74
 go_wp2_with (fail)
 have HR1 := Aside0.mk (Kd.R_drew HR.out)
 clear HR
 refine startS (n := 8) (S := (fun _ => True)) (ds := []) (trivial) (fun hHeld => ?_)
 refine with_tabW delr.tab5 delr.bits5 (fun HT_ HW_ => ?_)
 refine pureT (i := 0) (N := (some 20)) HT_ ?_
 refine pureT (i := 1) (N := (some 21)) HT_ ?_
 refine pureT (i := 2) (N := (some 22)) HT_ ?_
 refine pureT (i := 3) (N := (some 23)) HT_ ?_
 refine pureT (i := 4) (N := (some 24)) HT_ ?_
 refine pureT (i := 5) (N := (some 25)) HT_ ?_
 refine oneS (i := 6) (N := (some 26)) HT_ (fun K hK => ?_)
 refine Kd.R_delete_step d (w0 := w.drew) base (by rfl) (.tmp 22) (.tmp 25) 22 32 rfl Try.underlying22 ?hinfo rfl rfl ?hA rfl HR1.out HI.out (Below.refl _ _) HBS.out ?_
 case hinfo => rw [hd]; kernel_rfl
 case hA => rw [hd, Option.map_some, add_at, Nat.zero_add]
 intro w1 ho1 hb1 hg1
 have HO1 := Aside0.mk ho1
 have HG1 := Aside0.mk hg1
 clear ho1 hb1 hg1
 refine hK.out _ _ (trivial) (fun hHeld => ?_)
 clear hK K
 refine normS (N := (some 26)) ?_
 refine pureT (i := 7) (N := (some 0)) HT_ ?_
 refine done_ (done_of HT_.out (by kernel_rfl)) ?_
 generalize (if c = i + 1 then some (⟨g, 0, none⟩ : Addr) else some ⟨g, (i + 1) * 13, none⟩) = AA
 obtain ⟨w2, hst, ho2, hg2⟩ := clear_one hd HO1.out HI.out hnc
 have HO2 := Aside0.mk ho2
 have HG2 := Aside0.mk hg2
 clear ho2 hg2
 have i0 := HI.out
 have n1 : n - (n - 1) = 1 := by omega
 have n2 : (0 ≤ ((n - 1 : Nat) : Int)) = True := eq_true (by omega)
 have n3 : (((n - 1 : Nat) : Int) ≤ (n : Int)) = True := eq_true (by omega)
 clear i0
 go_wp2
 go_ret
 exact ⟨rfl, HO2.out, grown_trans (grown_trans (grown_drew _ _) HG1.out) HG2.out⟩
end Go.Proofs.Ytnopjjilpgekfaa.PCa
namespace Go.Proofs.Ytnopjjilpgekfaa.PCa
open Go.RowKit Go.Proofs.YtnopjjilpgekfaaW.PrintWords Go.Proofs.YtnopjjilpgekfaaW.PrintLast Go.Proofs.YtnopjjilpgekfaaW.PrintMore
set_option linter.unusedVariables false
set_option linter.unusedSimpArgs false
theorem ins_place (cur inner cs : List Value) (a n b : Nat) (hin : cur.take n = inner) (hn : n + b ≤ cur.length) (ha : a ≤ n) (hb : cs.length = b) :
  ((cur.take (a + b) ++ inner.drop a ++ cur.drop (a + b + (inner.drop a).length)).take a ++ cs ++ (cur.take (a + b) ++ inner.drop a ++ cur.drop (a + b + (inner.drop a).length)).drop (a + cs.length)).take (n + b) = inner.take a ++ cs ++ inner.drop a ∧
  ((cur.take (a + b) ++ inner.drop a ++ cur.drop (a + b + (inner.drop a).length)).take a ++ cs ++ (cur.take (a + b) ++ inner.drop a ++ cur.drop (a + b + (inner.drop a).length)).drop (a + cs.length)).length = cur.length := by
 have hil : inner.length = n := by rw [← hin, List.length_take]; omega
 have hdl : (inner.drop a).length = n - a := by rw [List.length_drop, hil]
 have h1 : (cur.take (a + b) ++ inner.drop a ++ cur.drop (a + b + (inner.drop a).length)).take a = inner.take a := by
  rw [List.append_assoc, List.take_append_of_le_length (by rw [List.length_take]; omega), List.take_take, Nat.min_eq_left (by omega), ← hin, List.take_take, Nat.min_eq_left ha]
 have h2 : (cur.take (a + b) ++ inner.drop a ++ cur.drop (a + b + (inner.drop a).length)).drop (a + cs.length) = inner.drop a ++ cur.drop (a + b + (inner.drop a).length) := by
  rw [List.append_assoc, hb]
  exact List.drop_left' (by rw [List.length_take]; omega)
 rw [h1, h2]
 refine ⟨?_, ?_⟩
 ·rw [← List.append_assoc]
  exact List.take_left' (by simp only [List.length_append, List.length_take, hb, hdl]; omega)
 ·simp only [List.length_append, List.length_take, List.length_drop, hb, hil]
  omega
theorem ins_grow (row inner cs : List Value) (a n b : Nat) (hr : row.take a = inner.take a) (hil : inner.length = n) (hn : n + b ≤ row.length) (ha : a ≤ n) (hb : cs.length = b) :
  ((row.take a ++ cs ++ row.drop (a + cs.length)).take (a + b) ++ inner.drop a ++ (row.take a ++ cs ++ row.drop (a + cs.length)).drop (a + b + (inner.drop a).length)).take (n + b) = inner.take a ++ cs ++ inner.drop a ∧
  ((row.take a ++ cs ++ row.drop (a + cs.length)).take (a + b) ++ inner.drop a ++ (row.take a ++ cs ++ row.drop (a + cs.length)).drop (a + b + (inner.drop a).length)).length = row.length := by
 have hdl : (inner.drop a).length = n - a := by rw [List.length_drop, hil]
 have h1 : (row.take a ++ cs ++ row.drop (a + cs.length)).take (a + b) = inner.take a ++ cs := by
  rw [hr]
  exact List.take_left' (by simp only [List.length_append, List.length_take, hb, hil]; omega)
 rw [h1]
 refine ⟨List.take_left' (by simp only [List.length_append, List.length_take, hb, hdl, hil]; omega), ?_⟩
 simp only [List.length_append, List.length_take, List.length_drop, hb, hil]
 omega
section
variable {w W : World} {base g c n i N G : Nat} {ok : Nat → Prop} {rows : List (List Value)} {cs inner : List Value}
abbrev rawP (x cs : List Value) : Prop := cs = x ∧ cs.length = 13 ∧ ∀ u ∈ cs, u.oneCell' = true
theorem raw_open (h : (Kd.raw 13).R 32 w base ok (.slice (some ⟨g, 0, none⟩) n c) rows) : ∃ inner cur, rows.length = n ∧ n ≤ c ∧ c ≤ maxLen ∧ base ≤ g ∧ ok g ∧ w.heap[g]? = some (.cells cur 32 (0, 0)) ∧ cur.size = c * 13 ∧ cur.toList.take (n * 13) = inner ∧ Reps rawP 13 rows inner := by
 have hm := (Kd.R_reads' h).1
 obtain ⟨h0, inner, hown, hr⟩ := h
 rcases hown.2 with ⟨hv, _⟩ | ⟨g', cap', cur, hv, hb, hh, hnc, hcm, hcs, htake⟩
 ·cases hv
 injection hv with ha' hm' hc'
 injection ha' with ha'
 injection ha' with hg
 subst hg; subst hc'
 exact ⟨inner, cur, hm.symm, by rw [hm]; exact hnc, hcm, hb, h0 g rfl, hh, hcs, by rw [hm]; exact htake, hr⟩
theorem raw_ins (hr : Reps rawP 13 rows inner) (hi : i ≤ rows.length) (hc : cs.length = 13) (h1 : ∀ u ∈ cs, u.oneCell' = true) : Reps rawP 13 (rows.take i ++ cs :: rows.drop i) (inner.take (i * 13) ++ cs ++ inner.drop (i * 13)) := by
 have e : rows.take i ++ cs :: rows.drop i = rows.take i ++ [cs] ++ rows.drop i := by rw [List.append_assoc]; rfl
 rw [e]
 exact Kd.reps_append ((Kd.reps_take hr hi).snoc ⟨rfl, hc, h1⟩ hc) (Kd.reps_drop hr)
theorem raw_fin {cur : List Value} (hN : W.heap[N]? = some (.cells cur.toArray 32 (0, 0))) (hb : base ≤ N) (hsz : cur.length = G * 13) (hG : n + 1 ≤ G) (hm : G ≤ maxLen) (hok : ok N) (hl : rows.length = n) (hi : i ≤ n)
  (htake : cur.take (n * 13 + 13) = inner.take (i * 13) ++ cs ++ inner.drop (i * 13)) (hr : Reps rawP 13 rows inner) (hc : cs.length = 13) (h1 : ∀ u ∈ cs, u.oneCell' = true) :
  (Kd.raw 13).R 32 W base ok (.slice (some ⟨N, 0, none⟩) (n + 1) G) (rows.take i ++ cs :: rows.drop i) := by
 have hlen : (rows.take i ++ cs :: rows.drop i).length = n + 1 := by
  rw [List.length_append, List.length_take, List.length_cons, List.length_drop]; omega
 have hr' := raw_ins (cs := cs) hr (by omega : i ≤ rows.length) hc h1
 refine ⟨fun k hk => ?_, _, ⟨hr'.1, .inr ⟨N, G, cur.toArray, by rw [hlen], hb, hN, by rw [hlen]; exact hG, hm, by rw [List.size_toArray]; exact hsz, ?_⟩⟩, hr'⟩
 ·have : N = k := by simpa [Value.ownBlock] using hk
  rw [← this]; exact hok
 ·rw [hlen, show (n + 1) * (Kd.raw 13).sz = n * 13 + 13 from by show (n + 1) * 13 = _; omega]
  exact htake
end
end Go.Proofs.Ytnopjjilpgekfaa.PCa
namespace Go.Proofs.Ytnopjjilpgekfaa.PCa
open Go.RowKit Go.Proofs.YtnopjjilpgekfaaW.PrintWords Go.Proofs.YtnopjjilpgekfaaW.PrintLast Go.Proofs.YtnopjjilpgekfaaW.PrintMore
attribute [local go_sem] max2_int min2_int max_two min_two max_three min_three max_four min_four
set_option linter.unusedVariables false
set_option linter.unusedSimpArgs false
def insg.T11 : Bool × List (List Nat × List Nat) := (true, [([], []), ([], []), ([], []), ([1, 2], [1, 2]), ([0, 3], [0, 3]), ([], []), ([], []), ([5, 6], [5, 6]), ([4, 7], [4, 7])])
def insg.B11 : List Nat := [0, 0, 0, 6, 15, 0, 0, 96, 255]
theorem insg.tab11 : rtab .any (opsOf Try.f43 11) = insg.T11 := by kernel_rfl
theorem insg.bits11 : waitsOk insg.T11.2 insg.B11 = true := by kernel_rfl
def insp.T15 : Bool × List (List Nat × List Nat) := (true, [([], []), ([], []), ([], []), ([1, 2], [1, 2]), ([0, 3], [0, 3]), ([], []), ([], []), ([5, 6], [5, 6]), ([4, 7], [4, 7])])
def insp.B15 : List Nat := [0, 0, 0, 6, 15, 0, 0, 96, 255]
theorem insp.tab15 : rtab .any (opsOf Try.f43 15) = insp.T15 := by kernel_rfl
theorem insp.bits15 : waitsOk insp.T15.2 insp.B15 = true := by kernel_rfl
set_option maxHeartbeats 4000000 in
set_option maxRecDepth 100000 in
theorem insert_end {w : World} {base n c : Nat} {A : Option Addr} {ok : Nat → Prop} {rows : List (List Value)} {cs : List Value} (h : (Kd.raw 13).R 32 w base ok (.slice A n c) rows) (hn : n < 100000) (vb : Nat) (hv : w.heap[vb]? = some (.cells cs.toArray 32 (0, 0))) (hc : cs.length = 13) (h1 : ∀ u ∈ cs, u.oneCell' = true) (hfresh : ∀ k, w.heap.size ≤ k → ok k) (hbase : base ≤ w.heap.size) :
  Calls Try.prog 43 #[.slice A n c, .int .i64 (n : Int), .slice (some ⟨vb, 0, none⟩) 1 1] w fun e w' => ∃ v', e = .returned v' ∧ (Kd.raw 13).R 32 w' base ok v' (rows ++ [cs]) ∧ w.grownBy w' (Value.slice A n c).ownBlock ∧ (v'.ownBlock = (Value.slice A n c).ownBlock ∨ ∃ b, v'.ownBlock = some b ∧ w.heap.size ≤ b) := by
 have hm := (Kd.R_reads' h).1
 have HR := Aside0.mk h
 have HV := Aside0.mk hv
 have HF := Aside0.mk hfresh
 have hC : (Kd.raw 13).C w (some ⟨vb, 0, none⟩) 1 [cs] := by
  refine ⟨rfl, by decide, fun _ => ⟨_, rfl, fun j p hj => ?_⟩⟩
  cases j with
  | zero =>
   injection hj with hj
   subst hj
   refine ⟨cs, hc, ⟨rfl, hc, h1⟩, fun i u hu => ?_⟩
   rw [add_at, Nat.zero_mul, Nat.zero_add, Nat.zero_add, cell_of_row w vb _ _ 32 (0, 0) hv, List.getElem?_toArray]
   exact hu
  | succ j => cases hj
 have HC := Aside0.mk hC
 have e1 : ((n : Int) == (n : Int)) = true := by rw [beq_self_eq_true]
 have e0 : ((1 : Int) == 0) = false := by decide
 have b1 : (0 ≤ (n : Int)) = True := eq_true (by omega)
 have b2 : ((n : Int) ≤ (n : Int)) = True := eq_true (by omega)
 have HN := Aside0.mk hn
 have HM := Aside0.mk hm
 have HBS := Aside0.mk hbase
 have hsl : ∀ W, (Instr.slice 22 (.slice A n c) (some (.int .i64 (n : Int))) none none).run Try.prog W = .ok (.slice (if c = n then A else A.map (·.add (n * 13))) (n - n) (c - n)) W := fun W => by
  have hu := Try.underlying22
  have b3 : (n ≤ c) = True := eq_true (Kd.R_reads' h).2.1
  cases A with
  | none =>
   by_cases hcn : c = n
   ·subst hcn
    go_simp
   ·have e : (c = n) = False := eq_false hcn
    go_simp
  | some ad =>
   by_cases hcn : c = n
   ·subst hcn
    go_simp
   ·have e : (c = n) = False := eq_false hcn
    go_simp
 obtain ⟨U, hU⟩ : ∃ U, (Value.slice (if c = n then A else A.map (·.add (n * 13))) (n - n) (c - n)) = U := ⟨_, rfl⟩
 rw [hU] at hsl
 clear hU
 have hlen : ∀ W ty, (Builtin.len_ #[22] ty #[.slice A n c]).run Try.prog W = .ok (.int .i64 (n : Int)) W := fun W ty => by go_simp
 clear h hv hfresh hC hn hm hbase hc h1
 go_enter Try.func43, Try.ntmps43
 go_wp2_with (first | ((with_reducible refine gate_builtin (b := .append) (xs := #[.tmp 23, .tmp 24]) rfl ?_); at_builtin; refine Kd.R_append_rows (Kd.raw 13) (w0 := w) base rfl (.tmp 23) (.tmp 24) 22 32 (.agg #[(.int .i64 0), (.int .i64 0), (.int .i64 0), (.slice none 0 0), (.int .i64 0), (.int .i64 0), (.int .i64 0), (.int .i64 0), (.int .i64 0), (.int .i64 0), (.int .i64 0), (.string ⟨#[]⟩), (.string ⟨#[]⟩)]) 136 rfl Try.underlying22 info32 rfl (by decide) (by omega) (.slice A n c) rows [cs] _ 1 1 ok (fun _ => False) rfl rfl HR.out HC.out (fun _ _ h => h) (fun _ h => h.elim) HF.out (Below.refl _ _) HBS.out ?aL ?_; (case aL => have h1_ := HN.out; have h2_ := HM.out; omega); intro v1 w1 ho hb hg hat))
 go_ret
 exact ⟨v1, rfl, ho, hg, hat⟩
theorem toNat1 (i : Nat) : ((i : Int) + 1).toNat = i + 1 := by omega
theorem copy_run (W : World) {N o dLen : Nat} (a : Addr) (sLen : Nat) (row cs : List Value) (hN : W.heap[N]? = some (.cells row.toArray 32 (0, 0))) (hn : cs.length = Nat.min sLen dLen * 13)
  (hsrc : ∀ j v, cs[j]? = some v → W.cell? (a.add j) = some v) (hfit : o + cs.length ≤ row.length) (h1 : ∀ v ∈ cs, v.oneCell' = true) :
  ∃ W2, (∀ ty dc sc, (Builtin.copy_ #[22, 22] ty #[.slice (some ⟨N, o, none⟩) dLen dc, .slice (some a) sLen sc]).run Try.prog W = .ok (goInt (Nat.min sLen dLen)) W2) ∧
   W2.heap[N]? = some (.cells (row.take o ++ cs ++ row.drop (o + cs.length)).toArray 32 (0, 0)) ∧ W.grownBy W2 (some N) :=
 ⟨_, fun ty dc sc => run_copy_wide W 22 22 ty 32 13 N o dLen dc a sLen sc row.toArray 32 cs Try.underlying22 (by kernel_rfl) hN hn hsrc (by rw [List.size_toArray]; exact hfit) h1,
  setRow_heap W N _ _ 32 (0, 0) hN, ⟨rfl, rfl, rfl, by simp [World.setRow], fun k hk hne => setRow_other W N k _ (fun e => hne (by rw [e]))⟩⟩
theorem grow_run {w : World} {g n c i : Nat} {cur : Array Value} {inner : List Value} (hh : w.heap[g]? = some (.cells cur 32 (0, 0))) (hcs : cur.size = c * 13) (htake : cur.toList.take (n * 13) = inner) (hil : inner.length = n * 13) (hi : i < n) (hnc : n ≤ c) (hroom : c < n + 1) (hn : n < 100000) :
  ∃ (W1 : World) (row : List Value) (G : Nat), (∀ ty, (Builtin.append_ #[22, 3] ty #[.slice (some ⟨g, 0, none⟩) i c, .int .i64 ((n : Int) + 1 - (i : Int))]).run Try.prog w = .ok (.slice (some ⟨w.heap.size, 0, none⟩) (n + 1) G) W1) ∧
   W1.heap[w.heap.size]? = some (.cells row.toArray 32 (0, 0)) ∧ row.length = G * 13 ∧ row.take (i * 13) = inner.take (i * 13) ∧ n + 1 ≤ G ∧ G ≤ maxLen ∧ w.grownBy W1 none := by
 obtain ⟨i0, hi0, hzz⟩ := Option.map_eq_some_iff.1 info32
 simp only [Prod.mk.injEq] at hzz
 obtain ⟨hz0, hzs, hzb⟩ := hzz
 have hkk : (n : Int) + 1 - (i : Int) = ((n + 1 - i : Nat) : Int) := by omega
 have hik : i + (n + 1 - i) = n + 1 := by omega
 have hold : (Builtin.firstCells i0.size i (.slice (some ⟨g, 0, none⟩) i c)).run Try.prog w.drew = .ok (inner.take (i * 13)).toArray w.drew := by
  rw [hzs]
  exact run_firstCells_some w.drew 13 i ⟨g, 0, none⟩ i c (inner.take (i * 13)) (by rw [List.length_take, hil]; omega) (fun j v hj => by
   rw [add_at, cell_of_row w.drew g _ cur 32 (0, 0) hh, ← Array.getElem?_toList, Nat.zero_add]
   rw [← htake, List.getElem?_take] at hj
   split at hj
   ·rw [List.getElem?_take] at hj
    split at hj
    ·exact hj
    ·cases hj
   ·cases hj)
 have hzc : (Value.agg #[(.int .i64 0), (.int .i64 0), (.int .i64 0), (.slice none 0 0), (.int .i64 0), (.int .i64 0), (.int .i64 0), (.int .i64 0), (.int .i64 0), (.int .i64 0), (.int .i64 0), (.string ⟨#[]⟩), (.string ⟨#[]⟩)]).cells.size = 13 := by kernel_rfl
 have hG := grownCap_ge w (n + 1) c 32
 have hGm := grownCap_le_maxLen w (n + 1) c 32 (by unfold maxLen; omega)
 have h := fun ty => Lib.run_append_grow_zeros w 22 3 ty 32 i0 _ .i64 .i64 Try.underlying22 Try.underlying3 hi0 hz0 (some ⟨g, 0, none⟩) i c (inner.take (i * 13)) hold (n + 1 - i) (by omega) (by rw [hzs]; decide) (by omega) (by omega) (by rw [hzb]; omega) (by rw [hzb, hik]; exact growslice_fits hroom (by omega))
 rw [hik] at h
 rw [hkk]
 generalize grownCap w (n + 1) c 32 = G at *
 generalize hz : (Value.agg #[(.int .i64 0), (.int .i64 0), (.int .i64 0), (.slice none 0 0), (.int .i64 0), (.int .i64 0), (.int .i64 0), (.int .i64 0), (.int .i64 0), (.int .i64 0), (.int .i64 0), (.string ⟨#[]⟩), (.string ⟨#[]⟩)]).cells = z at *
 obtain ⟨row, hrow⟩ : ∃ row, (inner.take (i * 13)).toArray ++ Builtin.zeroCells z (n + 1 - i) ++ Builtin.zeroCells z (G - (n + 1)) = row := ⟨_, rfl⟩
 rw [hrow] at h
 have hsz : ∀ m, (Builtin.zeroCells z m).size = m * 13 := fun m => by simp [Builtin.zeroCells, hzc]
 have hl : (inner.take (i * 13)).length = i * 13 := by rw [List.length_take, hil]; omega
 refine ⟨_, row.toList, G, h, ?_, ?_, ?_, hG, hGm, ?_⟩
 ·exact heap_alloc_new w.drew _
 ·rw [← hrow, Array.length_toList, Array.size_append, Array.size_append, hsz, hsz, List.size_toArray, hl]
  omega
 ·rw [← hrow, Array.toList_append, Array.toList_append, List.append_assoc]
  exact List.take_left' hl
 ·exact grown_trans (grown_drew w none) (World.grownBy_alloc w.drew _ none)
set_option maxHeartbeats 4000000 in
set_option maxRecDepth 100000 in
theorem insert_grow {w : World} {base g n c i : Nat} {ok : Nat → Prop} {rows : List (List Value)} {cs : List Value} (h : (Kd.raw 13).R 32 w base ok (.slice (some ⟨g, 0, none⟩) n c) rows) (hi : i < n) (hroom : c < n + 1) (hn : n < 100000) (vb : Nat) (hv : w.heap[vb]? = some (.cells cs.toArray 32 (0, 0))) (hc : cs.length = 13) (h1 : ∀ u ∈ cs, u.oneCell' = true) (hfresh : ∀ k, w.heap.size ≤ k → ok k) (hbase : base ≤ w.heap.size) :
  Calls Try.prog 43 #[.slice (some ⟨g, 0, none⟩) n c, .int .i64 (i : Int), .slice (some ⟨vb, 0, none⟩) 1 1] w fun e w' => ∃ v', e = .returned v' ∧ (Kd.raw 13).R 32 w' base ok v' (rows.take i ++ cs :: rows.drop i) ∧ w.grownBy w' (Value.slice (some ⟨g, 0, none⟩) n c).ownBlock ∧ (v'.ownBlock = (Value.slice (some ⟨g, 0, none⟩) n c).ownBlock ∨ ∃ b, v'.ownBlock = some b ∧ w.heap.size ≤ b) := by
 obtain ⟨inner, cur, hm, hnc, hcm, hb, hok, hh, hcs, htake, hr⟩ := raw_open h
 have hil : inner.length = n * 13 := by rw [hr.1, hm]
 have hone : ∀ v ∈ inner.drop (i * 13), v.oneCell' = true := fun v hv => by
  obtain ⟨q, hq, rfl⟩ := List.mem_iff_getElem.1 (List.mem_of_mem_drop hv)
  have hql : q / 13 < rows.length := by omega
  refine (hr.2 (q / 13) _ (List.getElem?_eq_getElem hql)).2.2 _ ?_
  rw [List.mem_iff_getElem?]
  refine ⟨q % 13, ?_⟩
  rw [List.getElem?_take, if_pos (Nat.mod_lt q (by decide)), List.getElem?_drop, show q / 13 * 13 + q % 13 = q from by omega, List.getElem?_eq_getElem hq]
 have hcells : ∀ j v, (inner.drop (i * 13))[j]? = some v → w.cell? ⟨g, i * 13 + j, none⟩ = some v := fun j v hj => by
  rw [cell_of_row w g _ cur 32 (0, 0) hh, ← Array.getElem?_toList]
  rw [List.getElem?_drop, ← htake, List.getElem?_take] at hj
  split at hj
  ·exact hj
  ·cases hj
 have hgw : g < w.heap.size := blk_lt hh
 have hvw : vb < w.heap.size := blk_lt hv
 obtain ⟨W1, row, G, hrz, hN, hrl, hrt, hG, hGm, hg1⟩ := grow_run hh hcs htake hil hi hnc hroom hn
 have hmn : Nat.min 1 (n + 1 - i) = 1 := Nat.min_eq_left (by omega)
 obtain ⟨W2, hcp2, hN2, hg2⟩ := copy_run W1 (o := i * 13) (dLen := n + 1 - i) ⟨vb, 0, none⟩ 1 row cs hN (by rw [hmn, hc]) (fun j v hj => by
  rw [add_at, Nat.zero_add, cell_of_row W1 vb _ _ 32 (0, 0) ((hg1.block vb hvw (by simp)).trans hv), List.getElem?_toArray]
  exact hj) (by rw [hc, hrl]; omega) h1
 have hmn3 : Nat.min (n - i) (n - i) = n - i := Nat.min_self _
 obtain ⟨W3, hcp3, hN3, hg3⟩ := copy_run W2.drew (o := (i + 1) * 13) (dLen := n - i) ⟨g, i * 13, none⟩ (n - i) _ (inner.drop (i * 13)) hN2 (by rw [hmn3, List.length_drop, hil]; omega) (fun j v hj => by
  rw [add_at]
  refine ((hg2.cell ((hg1.cell (hcells j v hj) (by simp))) ?_))
  intro e
  injection e with e
  exact absurd e (by show g ≠ _; omega)) (by simp only [List.length_append, List.length_take, List.length_drop, hc, hrl, hil]; omega) hone
 have hw3 : W2.drew.grownBy W3 (some w.heap.size) := hg3
 have hall : w.grownBy W3 (some g) := ⟨hg3.os.trans (hg2.os.trans hg1.os), hg3.tape.trans (hg2.tape.trans hg1.tape), hg3.output.trans (hg2.output.trans hg1.output), Nat.le_trans hg1.size (Nat.le_trans hg2.size hg3.size), fun k hk hne => by
  have e1 : some k ≠ some w.heap.size := fun e => by injection e with e; omega
  exact (hg3.block k (Nat.lt_of_lt_of_le hk (Nat.le_trans hg1.size hg2.size)) e1).trans ((hg2.block k (Nat.lt_of_lt_of_le hk hg1.size) e1).trans (hg1.block k hk (by simp)))⟩
 obtain ⟨g1, g2⟩ := ins_grow row inner cs (i * 13) (n * 13) 13 hrt hil (by rw [hrl]; omega) (by omega) hc
 rw [show (i + 1) * 13 = i * 13 + 13 from by omega] at hN3
 have hfin := raw_fin (W := W3) (base := base) (ok := ok) hN3 (by omega) (by rw [g2]; exact hrl) hG hGm (hfresh _ (Nat.le_refl _)) hm (by omega) g1 hr hc h1
 have HFIN := Aside0.mk hfin
 have HALL := Aside0.mk hall
 rw [hmn] at hcp2
 rw [hmn3] at hcp3
 have hb1 : (0 ≤ (i : Int)) = True := eq_true (by omega)
 have hb2 : ((i : Int) ≤ (n : Int)) = True := eq_true (by omega)
 have hb3 : (c = i) = False := eq_false (by omega)
 have hb4 : (G = i) = False := eq_false (by omega)
 have hb5 : (G = i + 1) = False := eq_false (by omega)
 have hb6 : (0 ≤ (i : Int) + 1) = True := eq_true (by omega)
 have hb7 : (i ≤ c) = True := eq_true (by omega)
 have hb8 : ((i : Int) ≤ (n : Int) + 1) = True := eq_true (by omega)
 have e0 : ((1 : Int) == 0) = false := by decide
 have e1 : ((i : Int) == (n : Int)) = false := by rw [beq_eq_false_iff_ne]; omega
 have e2 : decide ((n : Int) + 1 > (c : Int)) = true := decide_eq_true (by omega)
 have e3 : decide ((c : Int) < (n : Int) + 1) = true := decide_eq_true (by omega)
 have hw1 : IntKind.i64.wrap ((n : Int) + 1) = (n : Int) + 1 := by rw [IntKind.wrap_i64]; omega
 have hw2 : IntKind.i64.wrap ((n : Int) + 1 - (i : Int)) = (n : Int) + 1 - (i : Int) := by rw [IntKind.wrap_i64]; omega
 have hw3 : IntKind.i64.wrap ((i : Int) + 1) = (i : Int) + 1 := by rw [IntKind.wrap_i64]; omega
 have hw4 : wrap64 ((i : Int) + 1) = (i : Int) + 1 := by rw [← i64_w]; exact hw3
 have htn := toNat1 i
 have hg0 : goInt ((1 : Nat) : Int) = .int .i64 1 := rfl
 clear h hm hnc hcm hb hok hh hcs htake hr hil hone hcells hgw hvw hN hrl hrt hG hGm hg1 hmn hN2 hg2 hmn3 hN3 hg3 hw3 hall g1 g2 hfin hi hroom hn hv hc h1 hfresh hbase
 go_enter Try.func43, Try.ntmps43
 go_wp2_with (first | (at_builtin; refine Lib.wpList_append_run _ rfl _ _ _ _ rfl _ _ rfl rfl _ _ (hrz _) ?_))
 refine startS (n := 9) (S := (fun _ => True)) (ds := []) (trivial) (fun hHeld => ?_)
 refine with_tabW insg.tab11 insg.bits11 (fun HT_ HW_ => ?_)
 refine pureT (i := 0) (N := (some 46)) HT_ ?_
 refine pureT (i := 1) (N := (some 47)) HT_ ?_
 refine pureT (i := 2) (N := (some 48)) HT_ ?_
 refine pureT (i := 3) (N := (some 49)) HT_ ?_
 refine pureT (i := 4) (N := (some 50)) HT_ ?_
 refine pureT (i := 5) (N := (some 51)) HT_ ?_
 refine pureT (i := 6) (N := (some 52)) HT_ ?_
 refine pureT (i := 7) (N := (some 53)) HT_ ?_
 refine oneS (i := 8) (N := (some 54)) HT_ (fun K hK => ?_)
 refine value_ (w1 := ?_) (v := ?_) (by rfl) rfl ?_ ?_
 rotate_left 2
 ·go_simp
  constructor
  ·rfl
  ·rfl
 refine hK.out _ _ (trivial) (fun hHeld => ?_)
 clear hK K
 refine normS (N := (some 54)) ?_
 refine done_ (done_of HT_.out (by kernel_rfl)) ?_
 go_wp2
 go_ret
 exact ⟨_, rfl, HFIN.out, HALL.out, .inr ⟨_, rfl, Nat.le_refl _⟩⟩
set_option maxHeartbeats 4000000 in
set_option maxRecDepth 100000 in
theorem insert_place {w : World} {base g n c i : Nat} {ok : Nat → Prop} {rows : List (List Value)} {cs : List Value} (h : (Kd.raw 13).R 32 w base ok (.slice (some ⟨g, 0, none⟩) n c) rows) (hi : i < n) (hroom : n + 1 ≤ c) (hn : n < 100000) (vb : Nat) (hne : vb ≠ g) (hv : w.heap[vb]? = some (.cells cs.toArray 32 (0, 0))) (hc : cs.length = 13) (h1 : ∀ u ∈ cs, u.oneCell' = true) :
  Calls Try.prog 43 #[.slice (some ⟨g, 0, none⟩) n c, .int .i64 (i : Int), .slice (some ⟨vb, 0, none⟩) 1 1] w fun e w' => ∃ v', e = .returned v' ∧ (Kd.raw 13).R 32 w' base ok v' (rows.take i ++ cs :: rows.drop i) ∧ w.grownBy w' (Value.slice (some ⟨g, 0, none⟩) n c).ownBlock ∧ (v'.ownBlock = (Value.slice (some ⟨g, 0, none⟩) n c).ownBlock ∨ ∃ b, v'.ownBlock = some b ∧ w.heap.size ≤ b) := by
 obtain ⟨inner, cur, hm, hnc, hcm, hb, hok, hh, hcs, htake, hr⟩ := raw_open h
 have hil : inner.length = n * 13 := by rw [hr.1, hm]
 have hone : ∀ v ∈ inner.drop (i * 13), v.oneCell' = true := fun v hv => by
  obtain ⟨q, hq, rfl⟩ := List.mem_iff_getElem.1 (List.mem_of_mem_drop hv)
  have hql : q / 13 < rows.length := by omega
  refine (hr.2 (q / 13) _ (List.getElem?_eq_getElem hql)).2.2 _ ?_
  rw [List.mem_iff_getElem?]
  refine ⟨q % 13, ?_⟩
  rw [List.getElem?_take, if_pos (Nat.mod_lt q (by decide)), List.getElem?_drop, show q / 13 * 13 + q % 13 = q from by omega, List.getElem?_eq_getElem hq]
 have hcells : ∀ j v, (inner.drop (i * 13))[j]? = some v → w.cell? ⟨g, i * 13 + j, none⟩ = some v := fun j v hj => by
  rw [cell_of_row w g _ cur 32 (0, 0) hh, ← Array.getElem?_toList]
  rw [List.getElem?_drop, ← htake, List.getElem?_take] at hj
  split at hj
  ·exact hj
  ·cases hj
 have hgw : g < w.heap.size := blk_lt hh
 have hvw : vb < w.heap.size := blk_lt hv
 have hcl : cur.toList.length = c * 13 := by rw [Array.length_toList]; exact hcs
 have hmn3 : Nat.min (n + 1 - i) (n - i) = n - i := Nat.min_eq_right (by omega)
 have hh2 : w.drew.heap[g]? = some (.cells cur.toList.toArray 32 (0, 0)) := by rw [Array.toArray_toList]; exact hh
 obtain ⟨W1, hcp1, hN1, hg1⟩ := copy_run w.drew (o := (i + 1) * 13) (dLen := n - i) ⟨g, i * 13, none⟩ (n + 1 - i) _ (inner.drop (i * 13)) hh2 (by rw [hmn3, List.length_drop, hil]; omega) (fun j v hj => by
  rw [add_at]
  exact hcells j v hj) (by rw [List.length_drop, hil, hcl]; omega) hone
 have hmn : Nat.min 1 (n + 1 - i) = 1 := Nat.min_eq_left (by omega)
 obtain ⟨W2, hcp2, hN2, hg2⟩ := copy_run W1 (o := i * 13) (dLen := n + 1 - i) ⟨vb, 0, none⟩ 1 _ cs hN1 (by rw [hmn, hc]) (fun j v hj => by
  rw [add_at, Nat.zero_add, cell_of_row W1 vb _ _ 32 (0, 0) ((hg1.block vb hvw (fun e => hne (by injection e))).trans hv), List.getElem?_toArray]
  exact hj) (by simp only [List.length_append, List.length_take, List.length_drop, hc, hcl, hil]; omega) h1
 have hall : w.grownBy W2 (some g) := ⟨hg2.os.trans hg1.os, hg2.tape.trans hg1.tape, hg2.output.trans hg1.output, Nat.le_trans hg1.size hg2.size, fun k hk hne =>
  (hg2.block k (Nat.lt_of_lt_of_le hk hg1.size) hne).trans (hg1.block k hk hne)⟩
 obtain ⟨g1, g2⟩ := ins_place cur.toList inner cs (i * 13) (n * 13) 13 htake (by rw [hcl]; omega) (by omega) hc
 rw [show (i + 1) * 13 = i * 13 + 13 from by omega] at hN2
 have hfin := raw_fin (W := W2) (base := base) (ok := ok) hN2 hb (by rw [g2]; exact hcl) hroom hcm hok hm (by omega) g1 hr hc h1
 have HFIN := Aside0.mk hfin
 have HALL := Aside0.mk hall
 rw [hmn] at hcp2
 rw [hmn3] at hcp1
 obtain ⟨i0, hi0, hzz⟩ := Option.map_eq_some_iff.1 info32
 simp only [Prod.mk.injEq] at hzz
 have hov : ∀ lb cb, (callFunc 68 #[.slice (some ⟨vb, 0, none⟩) 1 1, .slice (some ⟨g, (i + 1) * 13, none⟩) lb cb]).run Try.prog w = .ok (.value (.bool false)) w := fun lb cb => by
  rw [run_callFunc_extern Try.func68 (by kernel_rfl) (by kernel_rfl) (by kernel_rfl) (e := Extern.SlicesOverlaps.overlaps #[22, 22] #[4]) (by kernel_rfl),
   Lib.run_overlaps_apart w 22 4 32 Try.underlying22 13 (fun w => by simp [sizeOf, typeInfo, hi0, hzz.2.1]) ⟨vb, 0, none⟩ ⟨g, (i + 1) * 13, none⟩ 1 1 lb cb hne 32 32 13 cur.size (by simp [World.shape?, hv, hc]) (by simp [World.shape?, hh]) (by rw [hcs]; omega) (blk_frozen hv _) (blk_frozen hv _)]
  rfl
 have hb1 : (0 ≤ (i : Int)) = True := eq_true (by omega)
 have hb2 : ((i : Int) ≤ (n : Int)) = True := eq_true (by omega)
 have hb3 : (c = i) = False := eq_false (by omega)
 have hb5 : (c = i + 1) = False := eq_false (by omega)
 have hb6 : (0 ≤ (i : Int) + 1) = True := eq_true (by omega)
 have hb7 : (n + 1 ≤ c) = True := eq_true (by omega)
 have hb8 : ((i : Int) ≤ (n : Int) + 1) = True := eq_true (by omega)
 have hb9 : (0 ≤ (n : Int) + 1) = True := eq_true (by omega)
 have hb10 : ((n : Int) + 1 ≤ (c : Int)) = True := eq_true (by omega)
 have e0 : ((1 : Int) == 0) = false := by decide
 have e1 : ((i : Int) == (n : Int)) = false := by rw [beq_eq_false_iff_ne]; omega
 have e2 : decide ((n : Int) + 1 > (c : Int)) = false := decide_eq_false (by omega)
 have e3 : decide ((c : Int) < (n : Int) + 1) = false := decide_eq_false (by omega)
 have hw1 : IntKind.i64.wrap ((n : Int) + 1) = (n : Int) + 1 := by rw [IntKind.wrap_i64]; omega
 have hw3 : IntKind.i64.wrap ((i : Int) + 1) = (i : Int) + 1 := by rw [IntKind.wrap_i64]; omega
 have hw4 : wrap64 ((i : Int) + 1) = (i : Int) + 1 := by rw [← i64_w]; exact hw3
 have htn := toNat1 i
 have htn2 := toNat1 n
 clear h hm hnc hcm hb hok hh hcs htake hr hil hone hcells hgw hvw hcl hh2 hN1 hg1 hmn hN2 hg2 hmn3 hall g1 g2 hfin hi hroom hn hv hc h1 hne hi0 hzz
 go_enter Try.func43, Try.ntmps43
 go_wp2_with (simp only [hov])
 refine startS (n := 9) (S := (fun _ => True)) (ds := []) (trivial) (fun hHeld => ?_)
 refine with_tabW insp.tab15 insp.bits15 (fun HT_ HW_ => ?_)
 refine pureT (i := 0) (N := (some 69)) HT_ ?_
 refine pureT (i := 1) (N := (some 70)) HT_ ?_
 refine pureT (i := 2) (N := (some 71)) HT_ ?_
 refine pureT (i := 3) (N := (some 72)) HT_ ?_
 refine pureT (i := 4) (N := (some 73)) HT_ ?_
 refine pureT (i := 5) (N := (some 74)) HT_ ?_
 refine pureT (i := 6) (N := (some 75)) HT_ ?_
 refine pureT (i := 7) (N := (some 76)) HT_ ?_
 refine oneS (i := 8) (N := (some 77)) HT_ (fun K hK => ?_)
 refine value_ (w1 := ?_) (v := ?_) (by rfl) rfl ?_ ?_
 rotate_left 2
 ·go_simp
  constructor
  ·rfl
  ·rfl
 refine hK.out _ _ (trivial) (fun hHeld => ?_)
 clear hK K
 refine normS (N := (some 77)) ?_
 refine done_ (done_of HT_.out (by kernel_rfl)) ?_
 go_wp2
 go_ret
 exact ⟨_, rfl, HFIN.out, HALL.out, .inl rfl⟩
end Go.Proofs.Ytnopjjilpgekfaa.PCa
namespace Go.Proofs.Ytnopjjilpgekfaa.PCa
open Go.RowKit Go.Proofs.YtnopjjilpgekfaaW.PrintWords Go.Proofs.YtnopjjilpgekfaaW.PrintLast Go.Proofs.YtnopjjilpgekfaaW.PrintMore
set_option linter.unusedVariables false
set_option linter.unusedSimpArgs false
theorem insert_raw {w : World} {base n c i : Nat} {A : Option Addr} {ok : Nat → Prop} {rows : List (List Value)} {cs : List Value} (h : (Kd.raw 13).R 32 w base ok (.slice A n c) rows) (hi : i ≤ n) (hn : n < 100000) (vb : Nat) (hne : some vb ≠ (Value.slice A n c).ownBlock) (hv : w.heap[vb]? = some (.cells cs.toArray 32 (0, 0))) (hc : cs.length = 13) (h1 : ∀ u ∈ cs, u.oneCell' = true) (hfresh : ∀ k, w.heap.size ≤ k → ok k) (hbase : base ≤ w.heap.size) :
  Calls Try.prog 43 #[.slice A n c, .int .i64 (i : Int), .slice (some ⟨vb, 0, none⟩) 1 1] w fun e w' => ∃ v', e = .returned v' ∧ (Kd.raw 13).R 32 w' base ok v' (rows.take i ++ cs :: rows.drop i) ∧ w.grownBy w' (Value.slice A n c).ownBlock ∧ (v'.ownBlock = (Value.slice A n c).ownBlock ∨ ∃ b, v'.ownBlock = some b ∧ w.heap.size ≤ b) := by
 have hm := (Kd.R_reads' h).1
 by_cases hin : i = n
 ·subst hin
  have e : rows.take i ++ cs :: rows.drop i = rows ++ [cs] := by rw [hm, List.take_length, List.drop_length]
  rw [e]
  exact insert_end h hn vb hv hc h1 hfresh hbase
 ·cases A with
  | none =>
   exfalso
   obtain ⟨_, _, _, _, hC⟩ := Kd.R_reads' h
   obtain ⟨ad, had, _⟩ := hC (by omega)
   cases had
  | some ad =>
   obtain ⟨g, rfl⟩ := Kd.R_head h
   by_cases hroom : c < n + 1
   ·exact insert_grow h (by omega) hroom hn vb hv hc h1 hfresh hbase
   ·exact insert_place h (by omega) (by omega) hn vb (fun e => hne (by rw [e]; rfl)) hv hc h1
theorem insert_S {w : World} {base n c i : Nat} {A : Option Addr} {ok okp : Nat → Prop} {l : List S32} {x : S32} {cs : List Value} (h : Kd.S k32 32 w base (fun k => ok k ∧ ¬ okp k) (.slice A n c) l) (hi : i ≤ n) (hn : n < 100000) (hM : k32.M w base okp x cs) (hokp : ∀ k, okp k → ok k) (hfresh : ∀ k, w.heap.size ≤ k → ok k)
  (vb : Nat) (hne : some vb ≠ (Value.slice A n c).ownBlock) (hv : w.heap[vb]? = some (.cells cs.toArray 32 (0, 0))) (hbase : base ≤ w.heap.size) :
  Calls Try.prog 43 #[.slice A n c, .int .i64 (i : Int), .slice (some ⟨vb, 0, none⟩) 1 1] w fun e w' => ∃ v', e = .returned v' ∧ Kd.S k32 32 w' base ok v' (l.take i ++ x :: l.drop i) ∧ w.grownBy w' (Value.slice A n c).ownBlock ∧ (v'.ownBlock = (Value.slice A n c).ownBlock ∨ ∃ b, v'.ownBlock = some b ∧ w.heap.size ≤ b) := by
 obtain ⟨f, hf, hR⟩ := Kd.S_tag h l.length okp (fun _ hk h2 => h2.2 hk)
 obtain ⟨rows, hl, hraw, hel⟩ := R_rows hR
 rw [List.length_zipIdx] at hl
 have hK := k32.K_of_M hM
 have hnl : n = l.length := by
  have := (Kd.R_reads' hR).1
  rwa [List.length_zipIdx] at this
 refine (insert_raw (Kd.R_mono hraw (ok' := fun _ => True) (fun _ _ => trivial)) hi hn vb hne hv (k32.K_len hK) (k32.K_one hK) (fun _ _ => trivial) hbase).mono ?_
 rintro e w' ⟨v', rfl, hr, hg, hat⟩
 have hown : ∀ k, v'.ownBlock = some k → (Value.slice A n c).ownBlock = some k ∨ w.heap.size ≤ k := fun k hk => by
  rcases hat with ha | ⟨b, ha, hb⟩
  ·exact .inl (ha ▸ hk)
  ·rw [ha] at hk
   injection hk with hk
   exact .inr (by omega)
 have hrR := rows_R (d := Kd.tag f k32) (ok := ok) (ys := l.zipIdx.take i ++ (x, l.length) :: l.zipIdx.drop i) hr
  (by simp only [List.length_append, List.length_cons, List.length_take, List.length_drop, List.length_zipIdx, hl])
  (fun k hk => by
   rcases hown k hk with h1 | h1
   ·exact (hR.1 k h1).1
   ·exact hfresh k h1)
  (fun j p cc hp hc => by
   have hmv : ∀ (q : S32 × Nat) (cq : List Value), (Kd.tag f k32).M w base (fun k => (ok k ∧ ¬ okp k) ∧ some k ≠ (Value.slice A n c).ownBlock) q cq → (Kd.tag f k32).M w' base (fun k => ok k ∧ some k ≠ v'.ownBlock) q cq := fun q cq hq =>
    (Kd.tag f k32).M_mono (fun k hk => ⟨hk.1.1.1.1, fun e => by
     rcases hown k e.symm with h1 | h1
     ·exact hk.1.1.2 h1.symm
     ·have := hk.1.2.2.1; omega⟩) (Kd.M_grown (ok := fun k => ((((ok k ∧ ¬ okp k) ∧ some k ≠ (Value.slice A n c).ownBlock) ∧ base ≤ k ∧ k < w.heap.size ∧ ∃ q, q ∈ (Kd.tag f k32).E ∧ ∃ cells, w.heap[k]? = some (.cells cells q (0, 0)))) ∧ True) ((Kd.tag f k32).M_mono (fun k hk => ⟨hk, trivial⟩) ((Kd.tag f k32).M_bound hq)) hg (fun k hk => hk.1.1.2))
   rcases Nat.lt_trichotomy j i with hj | hj | hj
   ·rw [List.getElem?_append_left (by rw [List.length_take, List.length_zipIdx]; omega), List.getElem?_take, if_pos hj] at hp
    rw [List.getElem?_append_left (by rw [List.length_take, hl]; omega), List.getElem?_take, if_pos hj] at hc
    exact hmv _ _ (hel j p cc hp hc)
   ·subst hj
    rw [List.getElem?_append_right (by rw [List.length_take, List.length_zipIdx]; omega), List.length_take, List.length_zipIdx, Nat.min_eq_left (by omega), Nat.sub_self, List.getElem?_cons_zero] at hp
    rw [List.getElem?_append_right (by rw [List.length_take, hl]; omega), List.length_take, hl, Nat.min_eq_left (by omega), Nat.sub_self, List.getElem?_cons_zero] at hc
    injection hp with hp
    injection hc with hc
    subst hp; subst hc
    show k32.M w' base _ x cs
    have hno : ∀ k, okp k → some k ≠ (Value.slice A n c).ownBlock := fun k hk e => (hR.1 k e.symm).2 hk
    refine k32.M_mono (fun k hk => ⟨⟨hokp k hk.1, fun e => ?_⟩, hf k hk.1⟩) (Kd.M_grown (k32.M_bound hM) hg (fun k hk => hno k hk.1))
    rcases hown k e.symm with h1 | h1
    ·exact hno k hk.1 h1.symm
    ·have := hk.2.2.1; omega
   ·obtain ⟨m, rfl⟩ : ∃ m, j = i + (m + 1) := ⟨j - i - 1, by omega⟩
    rw [List.getElem?_append_right (by rw [List.length_take, List.length_zipIdx]; omega), List.length_take, List.length_zipIdx, Nat.min_eq_left (by omega), Nat.add_sub_cancel_left, List.getElem?_cons_succ, List.getElem?_drop] at hp
    rw [List.getElem?_append_right (by rw [List.length_take, hl]; omega), List.length_take, hl, Nat.min_eq_left (by omega), Nat.add_sub_cancel_left, List.getElem?_cons_succ, List.getElem?_drop] at hc
    exact hmv _ _ (hel (i + m) p cc hp hc))
 refine ⟨v', rfl, ?_, hg, hat⟩
 have hfin := S_of_tags hrR (by
  refine ((List.perm_middle.map Prod.snd).nodup_iff).2 ?_
  rw [List.take_append_drop, List.map_cons]
  refine List.nodup_cons.2 ⟨fun hmem => ?_, zip_nodup _ _⟩
  rw [List.zipIdx_map_snd, List.mem_range'] at hmem
  obtain ⟨q, hq, e⟩ := hmem
  have e' : l.length = 0 + 1 * q := e
  omega)
 have e : (l.zipIdx.take i ++ (x, l.length) :: l.zipIdx.drop i).map Prod.fst = l.take i ++ x :: l.drop i := by
  rw [List.map_append, List.map_cons, List.map_take, List.map_drop, List.zipIdx_map_fst]
 rw [e] at hfin
 exact hfin
/-- An element goes: its blocks are its own. -/
theorem delete_S {w : World} {base n c i g : Nat} {ok : Nat → Prop} {l : List S32} (h : Kd.S k32 32 w base ok (.slice (some ⟨g, 0, none⟩) n c) l) (hi : i < n) (hn : n < 100000) :
  ∃ O : Nat → Prop, (∀ k, O k → ok k ∧ k ≠ g) ∧ (∃ cs, k32.M w base O (rd_T32 l (i : Int)) cs ∧ ∀ j u, cs[j]? = some u → w.cell? ⟨g, i * 13 + j, none⟩ = some u) ∧
  Calls Try.prog 74 #[.slice (some ⟨g, 0, none⟩) n c, .int .i64 (i : Int), .int .i64 ((i + 1 : Nat) : Int)] w fun e w' => e = .returned (.slice (some ⟨g, 0, none⟩) (n - 1) c) ∧ Kd.S k32 32 w' base (fun k => ok k ∧ ¬ O k) (.slice (some ⟨g, 0, none⟩) (n - 1) c) (l.eraseIdx i) ∧ w.grownBy w' (some g) := by
 obtain ⟨f, hR⟩ := h
 have hgo : ∀ m, (Value.slice (some ⟨g, 0, none⟩) m c).ownBlock = some g := fun m => rfl
 refine ⟨fun k => (ok k ∧ some k ≠ (Value.slice (some ⟨g, 0, none⟩) n c).ownBlock) ∧ f k = i, fun k hk => ⟨hk.1.1, fun e => hk.1.2 (by rw [e, hgo])⟩, ?_, (delete_calls (d := Kd.tag f k32) rfl hR hi hn).mono ?_⟩
 ·have hnl : n = l.length := by
   have := (Kd.R_reads' hR).1
   rwa [List.length_zipIdx] at this
  obtain ⟨c', hcl, hM, hcc, _⟩ := Kd.R_elem hR (z32, i) (i : Int) (by omega) (by omega)
  rw [Int.toNat_natCast] at hM hcc
  have e : l.zipIdx.getD i (z32, i) = (rd_T32 l (i : Int), i) := by
   have hil : i < l.length := by omega
   have hz : l.zipIdx[i]? = some (l[i], i) := by rw [List.getElem?_zipIdx, List.getElem?_eq_getElem hil, Nat.zero_add]; rfl
   rw [List.getD_eq_getElem?_getD, hz, Option.getD_some, rd_T32, Int.toNat_natCast, List.getD_eq_getElem?_getD, List.getElem?_eq_getElem hil, Option.getD_some]
  rw [e] at hM
  refine ⟨c', k32.M_mono (fun k hk => ⟨⟨hk.1.1, fun e => ?_⟩, hk.2⟩) hM, hcc⟩
  rw [hgo] at e
  injection e with e
  exact hk.1.2 e
 ·rintro e w' ⟨rfl, hr, hg⟩
  refine ⟨rfl, ?_, hg⟩
  have hz : ∀ k, f k = i → f k = i := fun _ h => h
  obtain ⟨rows, hl, hraw, hel⟩ := R_rows hr
  have hr2 : (Kd.tag f k32).R 32 w' base (fun k => ok k ∧ ¬((ok k ∧ some k ≠ (Value.slice (some ⟨g, 0, none⟩) n c).ownBlock) ∧ f k = i)) (.slice (some ⟨g, 0, none⟩) (n - 1) c) (l.zipIdx.eraseIdx i) := by
   refine rows_R hraw hl (fun k hk => ⟨hr.1 k hk, fun h2 => h2.1.2 (by rw [hgo] at hk ⊢; exact hk.symm)⟩) (fun j p cc hp hc => ?_)
   have hm := hel j p cc hp hc
   have hp2 : p.2 ≠ i := by
    have hmem : p ∈ l.zipIdx.eraseIdx i := List.mem_of_getElem? hp
    intro e
    rw [List.mem_eraseIdx_iff_getElem?] at hmem
    obtain ⟨q, hq, hp3⟩ := hmem
    rw [List.getElem?_zipIdx] at hp3
    obtain ⟨y, _, rfl⟩ := Option.map_eq_some_iff.1 hp3
    exact hq (by rw [Nat.zero_add] at e; exact e)
   refine k32.M_mono (fun k hk => ⟨⟨⟨hk.1.1, fun h2 => hp2 (hk.2.symm.trans h2.2)⟩, hk.1.2⟩, hk.2⟩) hm
  exact Kd.S_erase hr2
abbrev chA (x : S32) (v : Value) : Array Value := #[.int .i64 x.f0.f0, .int .i64 x.f0.f1, .int .i64 x.f1, v, .int .i64 x.f3, .int .i64 x.f4.f0, .int .i64 x.f4.f1, .int .i64 x.f5.f0, .int .i64 x.f5.f1, .int .i64 x.f6.f0, .int .i64 x.f6.f1, .string x.f7, .string x.f8]
abbrev chL (x : S32) (v : Value) : List Value := [.int .i64 x.f0.f0, .int .i64 x.f0.f1, .int .i64 x.f1, v, .int .i64 x.f3, .int .i64 x.f4.f0, .int .i64 x.f4.f1, .int .i64 x.f5.f0, .int .i64 x.f5.f1, .int .i64 x.f6.f0, .int .i64 x.f6.f1, .string x.f7, .string x.f8]
theorem chM {w : World} {base : Nat} {ok : Nat → Prop} {x : S32} {cs : List Value} (h : k32.M w base ok x cs) : ∃ v, cs = chL x v ∧ (Kd.int .i64).R 3 w base ok v x.f2 := k32_openM h
theorem chMk {w : World} {base : Nat} {ok : Nat → Prop} {x : S32} {v : Value} (h : (Kd.int .i64).R 3 w base ok v x.f2) : k32.M w base ok x (chL x v) := k32_mkM w base ok x h
section
variable {o : Oper} {ops : Array Oper} {rest : List Oper} {a : Act} {Q : Exit → Act → World → Prop} {W : World} {x : S32} {v : Value}
theorem load32_run (ρ : Operand → Value) {p : Operand} (ho : o.op = .load 32 p) {ad : Addr} (hp : ρ p = .pointer (some ad)) (hc : ∀ j u, (chL x v)[j]? = some u → W.cell? (ad.add j) = some u) :
  (execOp ρ o).run Try.prog W = .ok (.value (.agg (chA x v))) W := by
 have e : execOp ρ o = (do let v ← Instr.loadAt 32 (ρ p); pure (.value v)) := by
  unfold execOp
  rw [ho]
 obtain ⟨i0, hi0, hzz⟩ := Option.map_eq_some_iff.1 info32
 simp only [Prod.mk.injEq] at hzz
 have hl := run_loadCells_list (P := Try.prog) W ad (chL x v) hc
 have hl2 : (loadCells ad 13).run Try.prog W = .ok (chA x v) W := hl
 rw [e, hp]
 simp [Instr.loadAt, Instr.sureAddr, loadVar, isAgg, run_underlying Try.underlying32, sizeOf, typeInfo, hi0, hzz.2.1, hl2]
theorem store32_run (ρ : Operand → Value) {p q : Operand} (ho : o.op = .store 32 p q) {g : Nat} (hp : ρ p = .pointer (some ⟨g, 0, none⟩)) (hq : ρ q = .agg (chA x v)) (hv : v.oneCell' = true) {cs : Array Value} (hg : W.heap[g]? = some (.cells cs 32 (0, 0))) (hs : cs.size = 13) :
  (execOp ρ o).run Try.prog W = .ok .skip (W.setRow g (chA x v)) := by
 have e : execOp ρ o = (do Instr.storeAt 32 (ρ p) (ρ q); pure .skip) := by
  unfold execOp
  rw [ho]
 obtain ⟨i0, hi0, hzz⟩ := Option.map_eq_some_iff.1 info32
 simp only [Prod.mk.injEq] at hzz
 have hone : ∀ u ∈ chL x v, u.oneCell' = true := by
  intro u hu
  simp only [chL, List.mem_cons, List.not_mem_nil, or_false] at hu
  rcases hu with rfl | rfl | rfl | rfl | rfl | rfl | rfl | rfl | rfl | rfl | rfl | rfl | rfl <;> first | rfl | exact hv
 have hst := run_storeCells_at Try.prog g 0 32 (chL x v) 0 cs W hg (by rw [hs]; exact (Nat.le_refl 13 : 0 + 0 + 13 ≤ 13)) hone
 have hrow : (cs.toList.take (0 + 0) ++ chL x v ++ cs.toList.drop (0 + 0 + (chL x v).length)).toArray = chA x v := by
  rw [List.drop_of_length_le (by rw [Array.length_toList, hs]; exact (Nat.le_refl 13 : 13 ≤ 0 + 0 + 13))]
  rfl
 rw [hrow] at hst
 have hcl : v.cells = #[v] := by
  cases v <;> first | rfl | simp [Value.oneCell'] at hv
 have hcells : (Value.agg (chA x v)).cells = chA x v := by
  unfold Value.cells
  simp [hcl]
 rw [e, hp, hq]
 simp [Instr.storeAt, Instr.sureAddr, storeVar, sizeOf, typeInfo, hi0, hzz.2.1, hcells, hst]
theorem load32_ev (hgd : o.guard = none) {N : Tmp} (_hd : o.dst = some N) (x : S32) (v : Value) {p : Operand} (ho : o.op = .load 32 p) {ad : Addr} (hp : a.eval p = .pointer (some ad)) (hc : ∀ j u, (chL x v)[j]? = some u → W.cell? (ad.add j) = some u)
  (h : wpList Try.prog ops Q rest (a.put o.dst (.agg (chA x v))) W) : wpList Try.prog ops Q (o :: rest) a W :=
 Kd.event_run hgd (load32_run a.eval ho hp hc) h
theorem store32_ev (hgd : o.guard = none) (hN : o.dst = none) (x : S32) (v : Value) {p q : Operand} (ho : o.op = .store 32 p q) {g : Nat} (hp : a.eval p = .pointer (some ⟨g, 0, none⟩)) (hq : a.eval q = .agg (chA x v)) (hv : v.oneCell' = true) {cs : Array Value} (hg : W.heap[g]? = some (.cells cs 32 (0, 0))) (hs : cs.size = 13)
  (h : ∀ w1, w1.heap[g]? = some (.cells (chA x v) 32 (0, 0)) → W.grownBy w1 (some g) → wpList Try.prog ops Q rest a w1) : wpList Try.prog ops Q (o :: rest) a W := by
 refine wpList_plain hgd fun K hK => ?_
 unfold Oper.wp
 rw [store32_run a.eval ho hp hq hv hg hs]
 show K (a.put o.dst undef) _
 rw [hN]
 exact hK _ _ (h _ (setRow_heap W g cs _ 32 (0, 0) hg) ⟨rfl, rfl, rfl, by simp [World.setRow], fun k hk hne => setRow_other W g k _ (fun e => hne (by rw [e]))⟩)
theorem blk_cells {w : World} {g : Nat} {x : S32} {v : Value} (h : w.heap[g]? = some (.cells (chA x v) 32 (0, 0))) : ∀ j u, (chL x v)[j]? = some u → w.cell? ((⟨g, 0, none⟩ : Addr).add j) = some u := fun j u hj => by
 rw [add_at, Nat.zero_add, blk_cell h, show (chA x v)[j]? = ((chL x v).toArray)[j]? from rfl, List.getElem?_toArray]
 exact hj
end
end Go.Proofs.Ytnopjjilpgekfaa.PCa
namespace Go.Proofs.Ytnopjjilpgekfaa.PCa
open Go.RowKit Go.Proofs.YtnopjjilpgekfaaW.PrintWords Go.Proofs.YtnopjjilpgekfaaW.PrintLast Go.Proofs.YtnopjjilpgekfaaW.PrintMore
attribute [local go_sem] max2_int min2_int max_two min_two max_three min_three max_four min_four
set_option linter.unusedVariables false
set_option linter.unusedSimpArgs false
def takr.T2 : Bool × List (List Nat × List Nat) := (true, [([], []), ([0], [0]), ([1], [1]), ([2], [2]), ([], []), ([4], [4]), ([3, 5, 5], [3, 5])])
def takr.B2 : List Nat := [0, 1, 3, 7, 0, 16, 63]
theorem takr.tab2 : rtab .any (opsOf Try.f56 2) = takr.T2 := by kernel_rfl
theorem takr.bits2 : waitsOk takr.T2.2 takr.B2 = true := by kernel_rfl
theorem nodup_mem_erase {α : Type} [BEq α] [LawfulBEq α] {L : List α} (hn : L.Nodup) {j : Nat} {a : α} (hj : L[j]? = some a) (b : α) : b ∈ L.eraseIdx j ↔ b ∈ L ∧ b ≠ a := by
 rw [List.mem_eraseIdx_iff_getElem?]
 constructor
 ·rintro ⟨q, hq, hb⟩
  refine ⟨List.mem_of_getElem? hb, ?_⟩
  rintro rfl
  obtain ⟨h1, h2⟩ := List.getElem?_eq_some_iff.1 hb
  obtain ⟨h3, h4⟩ := List.getElem?_eq_some_iff.1 hj
  have e1 := List.Nodup.idxOf_getElem hn q h1
  have e2 := List.Nodup.idxOf_getElem hn j h3
  rw [h2] at e1
  rw [h4] at e2
  exact hq (e1.symm.trans e2)
 ·rintro ⟨hb, hne⟩
  obtain ⟨q, hq⟩ := List.mem_iff_getElem?.1 hb
  refine ⟨q, ?_, hq⟩
  rintro rfl
  rw [hq] at hj
  injection hj with hj
  exact hne hj
theorem MapOk.less {es : List ((Nat × KeyP) × Int)} {c : Nat} {l : List S32} (h : MapOk es c l) {i : Nat} {x : S32} (hi : l[i]? = some x) :
  ∃ j v, findP es (keyOf x) 0 = some (j, v) ∧ MapOk (es.eraseIdx j) c (l.eraseIdx i) := by
 have hm : keyOf x ∈ l.map keyOf := List.mem_map_of_mem (List.mem_of_getElem? hi)
 obtain ⟨j, e, h1, h2, h3⟩ := findP_some (i := 0) ((h.mem (keyOf x)).2 hm)
 rw [Nat.zero_add] at h3
 refine ⟨j, _, h3, ⟨fun e he => h.born e (List.mem_of_mem_eraseIdx he), fun e he => h.ones e (List.mem_of_mem_eraseIdx he), ?_, ?_, fun k => ?_, ?_⟩⟩
 ·rw [map_erase]
  exact h.nodup.sublist (List.eraseIdx_sublist _ _)
 ·rw [map_erase]
  exact h.once.sublist (List.eraseIdx_sublist _ _)
 ·rw [map_erase, map_erase, nodup_mem_erase h.nodup (a := keyOf x) (by rw [List.getElem?_map, h1, Option.map_some, h2]), nodup_mem_erase h.once (a := keyOf x) (by rw [List.getElem?_map, hi, Option.map_some]), h.mem k]
 ·rw [map_erase]
  exact h.bn.sublist (List.eraseIdx_sublist _ _)
theorem putObj_other (w : World) (b : Nat) (o : Obj) (k : Nat) (h : k ≠ b) : (w.putObj b o).heap[k]? = w.heap[k]? := by
 simp [World.putObj, Array.getElem?_setIfInBounds_ne (Ne.symm h)]
theorem putObj_at (w : World) (b : Nat) (o : Obj) (h : b < w.heap.size) : (w.putObj b o).heap[b]? = some o := by
 simp [World.putObj, Array.getElem?_setIfInBounds, h]
theorem Kept.putObj {w W : World} {S : Nat → Prop} (h : Kept w W S) (b : Nat) (o : Obj) (hb : S b ∨ w.heap.size ≤ b) : Kept w (W.putObj b o) S :=
 h.then_ (S2 := fun k => k = b) ⟨by simp [World.putObj], fun i _ hn => putObj_other W b o i hn, rfl, rfl, rfl⟩ (fun k hk => by rw [hk]; exact hb)
/-- The buffer opened. -/
structure BufO (w : World) (base : Nat) (P : Nat → Prop) (g : Nat) (room : Int) (l : List S32) (mb : Nat) (es : List ((Nat × KeyP) × Int)) (c : Nat) (A : Option Addr) (ch : Nat) : Prop where
 blk : w.heap[g]? = some (.cells #[.int .i64 room, .slice A l.length ch, .map (some mb)] 71 (0, 0))
 bg : base ≤ g
 Pg : P g
 bm : base ≤ mb
 Pm : P mb
 map : MapE w mb es c
 ok : MapOk es c l
 row : Kd.S k32 32 w base (fun k => (P k ∧ k < w.heap.size) ∧ k ≠ g ∧ k ≠ mb) (.slice A l.length ch) l
theorem BufI.opened {w : World} {base : Nat} {P : Nat → Prop} {g : Nat} {room : Int} {l : List S32} (h : BufI w base P g room l) : ∃ mb es c A ch, BufO w base P g room l mb es c A ch := by
 obtain ⟨mb, es, c, A, ch, h1, h2, h3, h4, h5, h6, h7, h8⟩ := h
 refine ⟨mb, es, c, A, ch, h1, h2, h3, h4, h5, h6, h7, Kd.S_mono (Kd.S_bound h8) (fun k hk => ⟨⟨hk.1.1, hk.2.2.1⟩, hk.1.2, ?_⟩)⟩
 rintro rfl
 obtain ⟨_, _, _, q, _, cells, hc⟩ := hk
 rw [h6] at hc
 cases hc
theorem BufO.shut {w : World} {base : Nat} {P : Nat → Prop} {g : Nat} {room : Int} {l : List S32} {mb : Nat} {es : List ((Nat × KeyP) × Int)} {c : Nat} {A : Option Addr} {ch : Nat} (h : BufO w base P g room l mb es c A ch) : BufI w base P g room l :=
 ⟨mb, es, c, A, ch, h.blk, h.bg, h.Pg, h.bm, h.Pm, h.map, h.ok, Kd.S_mono h.row (fun k hk => ⟨hk.1.1, hk.2.1⟩)⟩
theorem BufO.ne {w : World} {base : Nat} {P : Nat → Prop} {g : Nat} {room : Int} {l : List S32} {mb : Nat} {es : List ((Nat × KeyP) × Int)} {c : Nat} {A : Option Addr} {ch : Nat} (h : BufO w base P g room l mb es c A ch) : g ≠ mb := by
 intro e
 have h1 := h.blk
 have h2 := h.map
 rw [e] at h1
 unfold MapE at h2
 rw [h1] at h2
 cases h2
theorem take_fin {w w6 w7 w9 : World} {base : Nat} {P O : Nat → Prop} {g mb gr ch c i j0 r0 : Nat} {room : Int} {l : List S32} {es : List ((Nat × KeyP) × Int)} {x : S32} {v : Value}
  (hO : BufO w base P g room l mb es c (some ⟨gr, 0, none⟩) ch) (hi : i < l.length) (hxi : l[i]? = some x) (hMO : MapOk (es.eraseIdx j0) c (l.eraseIdx i)) (hr0 : w.heap.size ≤ r0) (hk6 : Kept w w6 (fun k => k = mb)) (hM6 : MapE w6 mb (es.eraseIdx j0) c)
  (hO1 : ∀ k, O k → ((P k ∧ k < w.heap.size) ∧ k ≠ g ∧ k ≠ mb) ∧ k ≠ gr) (hv : (Kd.int .i64).R 3 w6 base O v x.f2) (hg7 : w6.grownBy w7 (some gr)) (hG7 : w7.heap[g]? = some (.cells #[.int .i64 room, .slice (some ⟨gr, 0, none⟩) l.length ch, .map (some mb)] 71 (0, 0)))
  (hS7 : Kd.S k32 32 w7 base (fun k => ((P k ∧ k < w.heap.size) ∧ k ≠ g ∧ k ≠ mb) ∧ ¬ O k) (.slice (some ⟨gr, 0, none⟩) (l.length - 1) ch) (l.eraseIdx i))
  (hg9 : (w7.setCell ⟨g, 1, none⟩ (.slice (some ⟨gr, 0, none⟩) (l.length - 1) ch)).grownBy w9 (some r0)) (h0 : r0 ≠ g) (h0r : r0 ≠ gr) (hgm : gr ≠ mb) :
  ∃ (O : Nat → Prop) (v' : Value), Ending.returned (.agg (chA x v)) = .returned (.agg (chA x v')) ∧ (Kd.int .i64).R 3 w9 base O v' x.f2 ∧ (∀ k, O k → P k) ∧ BufI w9 base (fun k => P k ∧ ¬ O k) g room (l.eraseIdx i) ∧ Kept w w9 P := by
 have hG8 : (w7.setCell ⟨g, 1, none⟩ (.slice (some ⟨gr, 0, none⟩) (l.length - 1) ch)).heap[g]? = some (.cells #[.int .i64 room, .slice (some ⟨gr, 0, none⟩) (l.length - 1) ch, .map (some mb)] 71 (0, 0)) := blk_put hG7 1 _ rfl
 have hel : (l.eraseIdx i).length = l.length - 1 := List.length_eraseIdx_of_lt hi
 have hgo := hO.row
 have hsz6 := hk6.size
 have hPgr : P gr := ((Kd.S_R hO.row).1 gr rfl).1.1
 have far : ∀ k, k ≠ g → k ≠ r0 → k < w7.heap.size → w9.heap[k]? = w7.heap[k]? := fun k h1 h2 h3 =>
  (hg9.block k (by simpa [World.setCell] using h3) (fun e => h2 (by injection e))).trans (Below.heap_setCell w7 ⟨g, 1, none⟩ _ k h1)
 have hOr0 : ∀ k, k < w.heap.size → k ≠ r0 := fun k hk e => by omega
 refine ⟨O, v, rfl, ?_, fun k hk => (hO1 k hk).1.1.1, ?_, ?_⟩
 ·refine Kd.R_step (Kd.R_step hv (fun k hk hlt => hg7.block k hlt (fun e => (hO1 k hk).2 (by injection e)))) (fun k hk hlt => far k (hO1 k hk).1.2.1 (hOr0 k (hO1 k hk).1.1.2) hlt)
 ·refine BufO.shut (mb := mb) (es := es.eraseIdx j0) (c := c) (A := some ⟨gr, 0, none⟩) (ch := ch) ⟨?_, hO.bg, ⟨hO.Pg, fun h => (hO1 g h).1.2.1 rfl⟩, hO.bm, ⟨hO.Pm, fun h => (hO1 mb h).1.2.2 rfl⟩, ?_, hMO, ?_⟩
  ·rw [hel]
   exact blk_grown hG8 hg9 (fun e => h0 (by injection e with e; exact e.symm))
  ·unfold MapE at hM6 ⊢
   have hmbw := blk_lt hO.map
   rw [far mb (Ne.symm hO.ne) (hOr0 mb hmbw) (Nat.lt_of_lt_of_le (blk_lt hM6) hg7.size), hg7.block mb (blk_lt hM6) (fun e => hgm (by injection e with e; exact e.symm))]
   exact hM6
  ·rw [hel]
   refine Kd.S_mono (Kd.S_step hS7 (fun k hk hlt => far k hk.1.2.1 (hOr0 k hk.1.1.2) hlt)) (fun k hk => ⟨⟨⟨hk.1.1.1, hk.2⟩, ?_⟩, hk.1.2⟩)
   have h1 := hk.1.1.2
   have h2 := hg7.size
   have h3 := hg9.size
   have h4 : (w7.setCell ⟨g, 1, none⟩ (.slice (some ⟨gr, 0, none⟩) (l.length - 1) ch)).heap.size = w7.heap.size := by simp [World.setCell]
   omega
 ·have k1 : Kept w w6 P := hk6.mono (fun k hk => by rw [hk]; exact hO.Pm)
  have k2 : Kept w w7 P := Kept.of_grown hg7 k1 (fun k hk => by injection hk with hk; rw [← hk]; exact .inl hPgr)
  have k3 := Kept.setCell k2 (p := ⟨g, 1, none⟩) (.inl hO.Pg) (.slice (some ⟨gr, 0, none⟩) (l.length - 1) ch)
  exact Kept.of_grown hg9 k3 (fun k hk => by injection hk with hk; rw [← hk]; exact .inr hr0)
set_option maxHeartbeats 4000000 in
set_option maxRecDepth 100000 in
theorem take_calls {w : World} {base : Nat} {P : Nat → Prop} {g : Nat} {room : Int} {l : List S32} (h : BufI w base P g room l) (i : Nat) (hi : i < l.length) (hn : l.length < 100000) :
  Calls Try.prog 56 #[.pointer (some ⟨g, 0, none⟩), .int .i64 (i : Int)] w fun e w' => ∃ (O : Nat → Prop) (v : Value), e = .returned (.agg (chA (rd_T32 l (i : Int)) v)) ∧ (Kd.int .i64).R 3 w' base O v (rd_T32 l (i : Int)).f2 ∧ (∀ k, O k → P k) ∧ BufI w' base (fun k => P k ∧ ¬ O k) g room (l.eraseIdx i) ∧ Kept w w' P := by
 obtain ⟨mb, es, c, A, ch, hO⟩ := h.opened
 obtain ⟨gr, cap, hform, hbgr, hgrw, cells, hgr⟩ := Kd.S_form hO.row (by omega)
 injection hform with hA _ hch
 subst hA; subst hch
 have hxi : l[i]? = some (rd_T32 l (i : Int)) := by
  rw [List.getElem?_eq_getElem hi, rd_T32, Int.toNat_natCast, List.getD_eq_getElem?_getD, List.getElem?_eq_getElem hi, Option.getD_some]
 obtain ⟨j0, fv, hfp, hMO⟩ := hO.ok.less hxi
 obtain ⟨c', hcl, hM, hcc, hfr⟩ := Kd.R_elem (Kd.S_R hO.row) z32 (i : Int) (by omega) (by omega)
 rw [Int.toNat_natCast] at hcc
 have hM2 : k32.M w base (fun k => ((P k ∧ k < w.heap.size) ∧ k ≠ g ∧ k ≠ mb) ∧ k ≠ gr) (rd_T32 l (i : Int)) c' := hM
 clear hM
 obtain ⟨v, rfl, hv⟩ := chM hM2
 generalize hx : (rd_T32 l (i : Int)) = x at *
 obtain ⟨A3, c3, rfl, hl3, hC3⟩ := Kd.R_reads hv
 have hgrok := (Kd.S_R hO.row).1 gr rfl
 have HO := Aside0.mk hO
 have HCC := Aside0.mk hcc
 have HV := Aside0.mk hv
 have HI := Aside0.mk hi
 have HN := Aside0.mk hn
 have HX := Aside0.mk hx
 have HMO := Aside0.mk hMO
 have HFP := Aside0.mk hfp
 have HXI := Aside0.mk hxi
 have HGR := Aside0.mk hgr
 have HOK := Aside0.mk hgrok
 have HC := Aside0.mk hC3
 have HL := Aside0.mk hl3
 have b1 : (0 ≤ (i : Int)) = True := eq_true (by omega)
 have b2 : ((i : Int) < (l.length : Int)) = True := eq_true (by omega)
 have b3 : (i < l.length) = True := eq_true hi
 have HGW := Aside0.mk (blk_lt hO.blk)
 have HRW := Aside0.mk hgrw
 clear h hO hcc hv hi hn hx hMO hfp hxi hgr hgrok hC3 hl3 hM2 hbgr hgrw hfr hcl
 go_enter Try.func56, Try.ntmps56
 go_wp2_with (first | ((with_reducible refine gate_dst (N := 4) rfl ?_); refine boxE (N := 4) (cs := #[.int .i64 0, .int .i64 0, .int .i64 0, .slice none 0 0, .int .i64 0, .int .i64 0, .int .i64 0, .int .i64 0, .int .i64 0, .int .i64 0, .int .i64 0, .string ⟨#[]⟩, .string ⟨#[]⟩]) (t := 32) ?_; intro r0 hr0 w1 hbox hb; have HR0 := Aside0.mk hbox; have HB1 := Aside0.mk hb; have HN0 := Aside0.mk (Nat.le_of_eq hr0.symm); clear hbox hb hr0; have q1 := (blk_cell (blk_below HO.out.blk HB1.out) 1).trans rfl; have q1' : w1.cell? ⟨g, 1, none⟩ = some (.slice (some ⟨gr, 0, none⟩) l.length ch) := q1; clear q1) | ((with_reducible refine gate_dst (N := 12) rfl ?_); refine load32_ev rfl (N := 12) rfl x (.slice A3 x.f2.length c3) (p := .tmp 11) rfl (ad := ⟨gr, i * 13, none⟩) rfl ?hc ?_; (case hc => exact fun j u hj => by rw [add_at]; exact (HB1.out.cell (p := ⟨gr, i * 13 + j, none⟩) HRW.out).trans (HCC.out j u hj))) | ((with_reducible refine gate_dst (N := 5) rfl ?_); refine boxE (N := 5) (cs := #[.int .i64 0, .int .i64 0, .int .i64 0, .slice none 0 0, .int .i64 0, .int .i64 0, .int .i64 0, .int .i64 0, .int .i64 0, .int .i64 0, .int .i64 0, .string ⟨#[]⟩, .string ⟨#[]⟩]) (t := 32) ?_; intro r1 hr1 w2 hbox hb; have HR1 := Aside0.mk hbox; have HB2 := Aside0.mk hb; have HN1 := Aside0.mk (Nat.le_of_eq hr1.symm); clear hbox hb hr1) | ((with_reducible refine gate_store (t := 32) (p := 5) (v := .tmp 12) rfl ?_); refine store32_ev rfl rfl x (.slice A3 x.f2.length c3) (p := .tmp 5) (q := .tmp 12) rfl (g := r1) rfl rfl rfl HR1.out rfl ?_; intro w3 hb3 hg3; have HB3 := Aside0.mk hb3; have HG3 := Aside0.mk hg3; clear hb3 hg3))
 have hk3 : Kept w w3 (fun _ => False) := ((Kept.of_below HB1.out _).below HB2.out).then_ (S2 := fun k => k = r1) ⟨HG3.out.size, fun k hk hn => HG3.out.block k hk (fun e => hn (by injection e)), HG3.out.os, HG3.out.tape, HG3.out.output⟩ (fun k hk => .inr (by rw [hk]; exact Nat.le_trans HB1.out.size HN1.out))
 have HK3 := Aside0.mk hk3.drew
 have HG := Aside0.mk ((hk3.drew.block g HGW.out (fun h => h)).trans HO.out.blk)
 have HM3 := Aside0.mk ((hk3.drew.block mb (blk_lt HO.out.map) (fun h => h)).trans HO.out.map)
 have HR0' := Aside0.mk ((hk3.drew.block gr HRW.out (fun h => h)).trans HGR.out)
 have HC3 := Aside0.mk (Kd.C_below HC.out (hk3.drew.to_below (fun _ h => h.elim)))
 have HR1' : Aside0 (w3.drew.heap[r1]? = _) := ⟨HB3.out⟩
 have r0n := Aside0.mk (Nat.lt_of_lt_of_le HGW.out HN0.out)
 have HR0n : w.heap.size ≤ r0 := HN0.out
 have HR1n : w1.heap.size ≤ r1 := HN1.out
 have h01 : r0 < r1 := Nat.lt_of_lt_of_le (blk_lt HR0.out) HN1.out
 have H01 := Aside0.mk h01
 have HZ : Aside0 (w3.drew.heap[r0]? = _) := ⟨(HG3.out.block r0 (Nat.lt_of_lt_of_le (blk_lt HR0.out) HB2.out.size) (fun e => by injection e with e; omega)).trans (blk_below HR0.out HB2.out)⟩
 clear hk3 HR0n HR1n h01 q1'
 refine startS (n := 7) (S := (fun w' => w'.cell? ⟨g, 2, none⟩ = some (.map (some mb)) ∧ w'.heap[r1]? = some (.cells (chA x (.slice A3 x.f2.length c3)) 32 (0, 0)))) (ds := []) (⟨(blk_cell HG.out 2).trans rfl, HR1'.out⟩) (fun hHeld => ?_)
 refine with_tabW takr.tab2 takr.bits2 (fun HT_ HW_ => ?_)
 refine pureT (i := 0) (N := (some 13)) HT_ ?_
 refine pureT (i := 1) (N := (some 14)) HT_ ?_
 refine pureT (i := 2) (N := (some 15)) HT_ ?_
 refine takeS (i := 3) (N := (some 16)) (v := ?_) HT_ HW_ hHeld ?_ ?_
 rotate_left
 ·rintro w' ⟨s0, s1⟩
  go_simp
  with_reducible rfl
 refine normS (N := (some 16)) ?_
 refine takeS (i := 4) (N := (some 17)) (v := ?_) HT_ HW_ hHeld ?_ ?_
 rotate_left
 ·rintro w' ⟨s0, s1⟩
  refine Eq.trans (load32_run (x := x) (v := (.slice A3 x.f2.length c3)) _ (p := .tmp 5) ?ho_ ?hp_ (blk_cells s1)) ?hr_
  case ho_ => rfl
  case hp_ => rfl
  case hr_ => rfl
 refine normS (N := (some 17)) ?_
 refine oneS (i := 5) (N := (some 18)) HT_ (fun K hK => ?_)
 refine goes_ Try.func36 (by kernel_rfl) rfl #[(.agg #[.int .i64 x.f0.f0, .int .i64 x.f0.f1, .int .i64 x.f1, (.slice A3 x.f2.length c3), .int .i64 x.f3, .int .i64 x.f4.f0, .int .i64 x.f4.f1, .int .i64 x.f5.f0, .int .i64 x.f5.f1, .int .i64 x.f6.f0, .int .i64 x.f6.f1, .string x.f7, .string x.f8])] (by rfl) rfl rfl argS ?_
 refine (causal_of.calls x.f0.f0 x.f0.f1 x.f1 A3 c3 x.f2 x.f3 x.f4.f0 x.f4.f1 x.f5.f0 x.f5.f1 x.f6.f0 x.f6.f1 x.f7 x.f8 x.f0.f1 x.f1 _ HC3.out HL.out rfl).mono ?_
 rintro e w5 ⟨rfl, hb5⟩
 refine ⟨_, rfl, ?_⟩
 have hS5 : (fun w' => w'.cell? ⟨g, 2, none⟩ = some (.map (some mb)) ∧ w'.heap[r1]? = some (.cells (chA x (.slice A3 x.f2.length c3)) 32 (0, 0))) w5 := ⟨(hb5.cell (World.block_lt_of_cell? _ _ hHeld.1)).trans hHeld.1, blk_below hHeld.2 hb5⟩
 have HB5 := Aside0.mk hb5
 clear hb5
 have hdel : ∀ ty, (Builtin.delete_ #[69, 76] ty #[.map (some mb), (.agg #[.int .i64 x.f0.f1, .int .i64 x.f1])]).run Try.prog w5 = .ok (.tuple #[]) (w5.putObj mb (.map ((es.eraseIdx j0).map entE).toArray c)) := fun ty => by
  have h_ := delete_run (blk_below HM3.out HB5.out) (keyOf x) ty
  rw [HFP.out] at h_
  exact h_
 refine hK.out _ _ (hS5) (fun hHeld => ?_)
 clear hK K
 refine normS (N := (some 18)) ?_
 refine oneS (i := 6) (N := none) HT_ (fun K hK => ?_)
 refine value_ (w1 := ?_) (v := ?_) (by rfl) rfl ?_ ?_
 rotate_left 2
 ·go_simp
  constructor
  ·rfl
  ·rfl
 refine hK.out _ _ (⟨(World.cell?_of_block (putObj_other _ _ _ _ HO.out.ne)).trans hS5.1, (putObj_other _ _ _ _ (fun e => by have h_ := blk_lt HO.out.map; have h2_ := HN1.out; have h3_ := HB1.out.size; omega)).trans hS5.2⟩) (fun hHeld => ?_)
 clear hK K
 refine done_ (done_of HT_.out (by kernel_rfl)) ?_
 have hk6 : Kept w (w5.putObj mb (.map ((es.eraseIdx j0).map entE).toArray c)) (fun k => k = mb) := ((HK3.out.below HB5.out).mono (fun _ h => h.elim)).putObj mb _ (.inl rfl)
 have hM6 : MapE (w5.putObj mb (.map ((es.eraseIdx j0).map entE).toArray c)) mb (es.eraseIdx j0) c := putObj_at _ _ _ (blk_lt (blk_below HM3.out HB5.out))
 have hZ6 : (w5.putObj mb (.map ((es.eraseIdx j0).map entE).toArray c)).heap[r0]? = _ := (putObj_other _ _ _ _ (fun e => by have h_ := blk_lt HO.out.map; have h2_ := HN0.out; omega)).trans (blk_below HZ.out HB5.out)
 have hR6 := hHeld.2
 generalize w5.putObj mb (.map ((es.eraseIdx j0).map entE).toArray c) = w6 at *
 have hG6 := (hk6.block g HGW.out HO.out.ne).trans HO.out.blk
 have hS6 := Kd.S_step HO.out.row (fun k hk _ => hk6.block k hk.1.2 hk.2.2)
 obtain ⟨O, hO1, ⟨cs, hMO6, hcc6⟩, hcall⟩ := delete_S (i := i) hS6 HI.out HN.out
 rw [HX.out] at hMO6
 obtain ⟨v', rfl, hv'⟩ := chM hMO6
 have hvv : v' = .slice A3 x.f2.length c3 := by
  have e1 := hcc6 3 _ rfl
  have e2 := HCC.out 3 _ rfl
  rw [World.cell?_of_block (a := ⟨gr, i * 13 + 3, none⟩) (hk6.block gr HRW.out HOK.out.2.2)] at e1
  exact Option.some.inj (e1.symm.trans e2)
 subst hvv
 rw [show ((i + 1 : Nat) : Int) = (i : Int) + 1 from rfl] at hcall
 have HCALL := Aside0.mk hcall
 have HO1 := Aside0.mk hO1
 have HV6 := Aside0.mk hv'
 have HM6 := Aside0.mk hM6
 have HZ6 := Aside0.mk hZ6
 have HR6 := Aside0.mk hR6
 have HK6 := Aside0.mk hk6
 have HG6 := Aside0.mk hG6
 have q1 : w6.cell? ⟨g, 1, none⟩ = some (.slice (some ⟨gr, 0, none⟩) l.length ch) := (blk_cell HG6.out 1).trans rfl
 have hw1 : IntKind.i64.wrap ((i : Int) + 1) = (i : Int) + 1 := by rw [IntKind.wrap_i64]; have h_ := HI.out; have h2_ := HN.out; omega
 clear hcall hO1 hv' hM6 hZ6 hR6 hk6 hG6 hS6 hcc6 hHeld hdel hS5 hMO6
 go_wp2_with (fail)
 refine HCALL.out.mono ?_
 rintro e w7 ⟨rfl, hS7, hg7⟩
 have hgg : (some g : Option Nat) ≠ some gr := fun e => by injection e with e; exact HOK.out.2.1 e.symm
 have HG7 := Aside0.mk (blk_grown HG6.out hg7 hgg)
 have HS7 := Aside0.mk hS7
 have HG7' := Aside0.mk hg7
 have h1r : r1 ≠ g := fun e => by have h_ := HGW.out; have h2_ := HN1.out; have h3_ := HB1.out.size; omega
 have h0r : r0 ≠ g := fun e => by have h_ := HGW.out; have h2_ := HN0.out; omega
 have h1gr : r1 ≠ gr := fun e => by have h_ := HRW.out; have h2_ := HN1.out; have h3_ := HB1.out.size; omega
 have h0gr : r0 ≠ gr := fun e => by have h_ := HRW.out; have h2_ := HN0.out; omega
 have H1R := Aside0.mk h1r
 have HR7 := Aside0.mk (blk_far (p := ⟨g, 1, none⟩) (blk_grown HR6.out hg7 (fun e => h1gr (by injection e))) h1r (.slice (some ⟨gr, 0, none⟩) (l.length - 1) ch))
 have HZ7 := Aside0.mk (blk_far (p := ⟨g, 1, none⟩) (blk_grown HZ6.out hg7 (fun e => h0gr (by injection e))) h0r (.slice (some ⟨gr, 0, none⟩) (l.length - 1) ch))
 have H0 := Aside0.mk h0r
 have H0R := Aside0.mk h0gr
 have q2 : w7.cell? ⟨g, 1, none⟩ = some (.slice (some ⟨gr, 0, none⟩) l.length ch) := (blk_cell HG7.out 1).trans rfl
 have q3 := blk_frozen HG7.out 1
 clear hgg h1r h0r h1gr h0gr hS7 hg7 q1
 go_wp2_with (first | ((with_reducible refine gate_dst (N := 30) rfl ?_); refine load32_ev rfl (N := 30) rfl x (.slice A3 x.f2.length c3) (p := .tmp 5) rfl (ad := ⟨r1, 0, none⟩) rfl (blk_cells HR7.out) ?_) | ((with_reducible refine gate_store (t := 32) (p := 4) (v := .tmp 30) rfl ?_); refine store32_ev rfl rfl x (.slice A3 x.f2.length c3) (p := .tmp 4) (q := .tmp 30) rfl (g := r0) rfl rfl rfl HZ7.out rfl ?_; intro w9 hb9 hg9; have HB9 := Aside0.mk hb9; have HG9 := Aside0.mk hg9; clear hb9 hg9))
 refine bodyPost_ret (results_cell_row rfl _ _ r0 32 (chA x (.slice A3 x.f2.length c3)) (0, 0) _ rfl HB9.out Try.underlying32 rfl (by kernel_rfl)) rfl ?_
 exact take_fin HO.out HI.out HXI.out HMO.out HN0.out HK6.out HM6.out HO1.out HV6.out HG7'.out HG7.out HS7.out HG9.out H0.out H0R.out HOK.out.2.2
end Go.Proofs.Ytnopjjilpgekfaa.PCa
namespace Go.Proofs.Ytnopjjilpgekfaa.PCa
open Go.RowKit Go.Proofs.YtnopjjilpgekfaaW.PrintWords Go.Proofs.YtnopjjilpgekfaaW.PrintLast Go.Proofs.YtnopjjilpgekfaaW.PrintMore
set_option linter.unusedVariables false
set_option linter.unusedSimpArgs false
theorem badN_false {n : Int} (h0 : 0 ≤ n) (h1 : n ≤ 1099511627776) : badN n = false := by
 unfold badN
 rw [decide_eq_false (by omega), decide_eq_false (by omega)]
 rfl
theorem chk_zero {l : List Int} (hl : l.length ≤ 64) (h : ∀ n ∈ l, 0 ≤ n ∧ n ≤ 1099511627776) : chkC l = 0 := by
 unfold chkC
 rw [if_neg (by omega), if_neg]
 rw [Bool.not_eq_true, List.any_eq_false]
 intro n hn
 rw [badN_false (h n hn).1 (h n hn).2]
 decide
theorem chk_mem {l : List Int} (h : chkC l = 0) : ∀ n ∈ l, 0 ≤ n ∧ n ≤ 1099511627776 := by
 intro n hn
 obtain ⟨i, hi, rfl⟩ := List.mem_iff_getElem.1 hn
 have := chk_rd h (i : Int)
 unfold atC at this
 rw [if_neg (by omega)] at this
 unfold rd at this
 simpa [List.getD_eq_getElem?_getD, hi] using this
theorem tick_chk (l : List Int) (r : Int) : chkC (tickC l r).1 = 0 := by
 unfold tickC
 by_cases h : chkC l = 0
 ·rw [if_pos h]
  by_cases h2 : r < 0 ∨ 64 ≤ r
  ·rw [if_pos h2]; rfl
  ·rw [if_neg h2]
   by_cases h3 : atC l r = 1099511627776
   ·rw [if_pos h3]; rfl
   ·rw [if_neg h3]
    have hl := chk_len h
    have hrow : (clock_Tick.row l r).length ≤ 64 := by
     have := clock_Tick.row_len (l := l) (r := r) (by omega)
     omega
    have hmem : ∀ n ∈ clock_Tick.row l r, 0 ≤ n ∧ n ≤ 1099511627776 := by
     intro n hn
     unfold clock_Tick.row at hn
     rcases List.mem_append.1 hn with hn | hn
     ·exact chk_mem h n hn
     ·rw [List.eq_of_mem_replicate hn]; omega
    have hat := chk_rd h r
    refine chk_zero ?_ ?_
    ·refine Nat.le_trans (List.length_take_le _ _) ?_
     refine Nat.le_trans (trimN_le _ _) ?_
     unfold clock_Tick.bump
     rw [List.length_set]
     exact hrow
    ·intro n hn
     have hn2 := List.mem_of_mem_take hn
     unfold clock_Tick.bump at hn2
     rcases List.mem_or_eq_of_mem_set hn2 with hn3 | hn3
     ·exact hmem n hn3
     ·rw [row_rd (by omega)] at hn3
      omega
 ·rw [if_neg h]; rfl
theorem causal_tick_is (l : List Int) (x : S32) (k : Nat) (hk : 300 < k) : causal_tick.f k l x.f0.f0 x.f0.f1 x.f1 x.f2 x.f3 x.f4.f0 x.f4.f1 x.f5.f0 x.f5.f1 x.f6.f0 x.f6.f1 x.f7 x.f8 = some (tickC l x.f0.f1).1 := by
 unfold causal_tick.f
 rw [clock_Tick_is l _ k hk, Option.bind_some]
/-- What comes out, and what is left. -/
def relF : Nat → List Int → List S32 → List S32 → List S32 × List S32
 | 0, _, out, left => (out, left)
 | n + 1, now, out, left => if 0 ≤ nextI now left 0 then relF n (tickC now (rd_T32 left (nextI now left 0)).f0.f1).1 (out ++ [rd_T32 left (nextI now left 0)]) (left.eraseIdx (nextI now left 0).toNat) else (out, left)
theorem next_none (now : List Int) : ∀ (l : List S32) (i : Nat), (∀ x ∈ l, ripeC now x = false) → nextI now l i = -1
 | [], _, _ => rfl
 | x :: t, i, h => by
  rw [nextI, h x List.mem_cons_self, if_neg (by decide)]
  exact next_none now t (i + 1) (fun y hy => h y (List.mem_cons_of_mem _ hy))
theorem next_at (now : List Int) : ∀ (l : List S32) (i j : Nat) (x : S32), l[j]? = some x → ripeC now x = true → (∀ (m : Nat) (y : S32), m < j → l[m]? = some y → ripeC now y = false) → nextI now l i = ((i + j : Nat) : Int)
 | [], _, _, _, h, _, _ => by cases h
 | x :: t, i, j, y, h, hr, hb => by
  cases j with
  | zero =>
   injection h with h
   subst h
   rw [nextI, if_pos hr]
   rfl
  | succ j =>
   rw [nextI, hb 0 x (Nat.succ_pos _) rfl, if_neg (by decide), next_at now t (i + 1) j y h hr (fun m y hm hy => hb (m + 1) y (Nat.succ_lt_succ hm) hy)]
   congr 1
   omega
theorem relF_none {now : List Int} {out left : List S32} (h : ∀ x ∈ left, ripeC now x = false) : relF left.length now out left = (out, left) := by
 cases hl : left.length with
 | zero => rfl
 | succ n => rw [relF, next_none now left 0 h, if_neg (by decide)]
theorem rd32_at {l : List S32} {j : Nat} (h : j < l.length) : l[j]? = some (rd_T32 l (j : Int)) := by
 rw [List.getElem?_eq_getElem h, rd_T32, Int.toNat_natCast, List.getD_eq_getElem?_getD, List.getElem?_eq_getElem h, Option.getD_some]
theorem relF_next {now : List Int} {out left : List S32} {j : Nat} (hj : j < left.length) (hr : ripeC now (rd_T32 left (j : Int)) = true) (hb : ∀ m, m < j → ripeC now (rd_T32 left (m : Int)) = false) :
  relF left.length now out left = relF (left.eraseIdx j).length (tickC now (rd_T32 left (j : Int)).f0.f1).1 (out ++ [rd_T32 left (j : Int)]) (left.eraseIdx j) := by
 have hn := next_at now left 0 j _ (rd32_at hj) hr (fun m y hm hy => by
  have h1 := hb m hm
  rw [rd32_at (by omega)] at hy
  injection hy with hy
  rw [← hy]; exact h1)
 rw [Nat.zero_add] at hn
 obtain ⟨n, hl⟩ : ∃ n, left.length = n + 1 := ⟨left.length - 1, by omega⟩
 rw [List.length_eraseIdx_of_lt hj, hl, relF, hn, if_pos (by omega), Int.toNat_natCast]
 rfl
section
variable {w w1 W W1 : World} {base g : Nat} {P P' X : Nat → Prop} {room : Int} {l : List S32}
theorem BufI.bound (h : BufI w base P g room l) : BufI w base (fun k => P k ∧ k < w.heap.size) g room l := by
 obtain ⟨mb, es, c, A, ch, h⟩ := h.opened
 exact ⟨mb, es, c, A, ch, h.blk, h.bg, ⟨h.Pg, blk_lt h.blk⟩, h.bm, ⟨h.Pm, blk_lt h.map⟩, h.map, h.ok, Kd.S_mono h.row (fun k hk => ⟨hk.1, hk.2.1⟩)⟩
theorem BufI.mono (h : BufI w base P g room l) (hP : ∀ k, P k → P' k) : BufI w base P' g room l := by
 obtain ⟨mb, es, c, A, ch, h1, h2, h3, h4, h5, h6, h7, h8⟩ := h
 exact ⟨mb, es, c, A, ch, h1, h2, hP g h3, h4, hP mb h5, h6, h7, Kd.S_mono h8 (fun k hk => ⟨hP k hk.1, hk.2⟩)⟩
theorem BufI.step (h : BufI w base P g room l) (hm : ∀ k, P k → k < w.heap.size → w1.heap[k]? = w.heap[k]?) : BufI w1 base P g room l := by
 obtain ⟨mb, es, c, A, ch, h⟩ := h.opened
 refine ⟨mb, es, c, A, ch, (hm g h.Pg (blk_lt h.blk)).trans h.blk, h.bg, h.Pg, h.bm, h.Pm, (hm mb h.Pm (blk_lt h.map)).trans h.map, h.ok, Kd.S_mono (Kd.S_step h.row (fun k hk hlt => hm k hk.1.1 hlt)) (fun k hk => ⟨hk.1.1, hk.2.1⟩)⟩
theorem BufI.below (h : BufI w base P g room l) (hb : Below w.heap.size w w1) : BufI w1 base P g room l := h.step (fun k _ hk => hb.block k hk)
theorem BufI.base_le (h : BufI w base P g room l) : base ≤ w.heap.size := by
 obtain ⟨mb, es, c, A, ch, h⟩ := h.opened
 have h1 := blk_lt h.blk
 have h2 := h.bg
 omega
/-- What the loop keeps: the world w is that of the call; P the buffer's blocks, X those of the change that came. -/
structure RelI (w : World) (base : Nat) (P X : Nat → Prop) (g : Nat) (room : Int) (W : World) (kv ov : Value) (now : List Int) (out left : List S32) (P' O K : Nat → Prop) : Prop where
 buf : BufI W base P' g room left
 rows : Kd.S k32 32 W base O ov out
 clk : (Kd.int .i64).R 3 W base K kv now
 chk : chkC now = 0
 P'P : ∀ k, P' k → P k ∧ k < W.heap.size
 OP' : ∀ k, O k → ¬ P' k ∧ k < W.heap.size
 OX : ∀ k, O k → X k ∨ P k ∨ w.heap.size ≤ k
 KP' : ∀ k, K k → ¬ P' k ∧ ¬ O k
 kept : Kept w W P
 fresh : ∀ k, ov.ownBlock = some k → w.heap.size ≤ k
theorem RelI.below {kv ov : Value} {now : List Int} {out left : List S32} {O K : Nat → Prop} (h : RelI w base P X g room W kv ov now out left P' O K) (hb : Below W.heap.size W W1) : RelI w base P X g room W1 kv ov now out left P' O K :=
 ⟨h.buf.below hb, Kd.S_below h.rows hb, Kd.R_below h.clk hb, h.chk, fun k hk => ⟨(h.P'P k hk).1, Nat.lt_of_lt_of_le (h.P'P k hk).2 hb.size⟩, fun k hk => ⟨(h.OP' k hk).1, Nat.lt_of_lt_of_le (h.OP' k hk).2 hb.size⟩, h.OX, h.KP', h.kept.below hb, h.fresh⟩
end
end Go.Proofs.Ytnopjjilpgekfaa.PCa
namespace Go.Proofs.Ytnopjjilpgekfaa.PCa
open Go.RowKit Go.Proofs.YtnopjjilpgekfaaW.PrintWords Go.Proofs.YtnopjjilpgekfaaW.PrintLast Go.Proofs.YtnopjjilpgekfaaW.PrintMore
attribute [local go_sem] max2_int min2_int max_two min_two max_three min_three max_four min_four
set_option linter.unusedVariables false
set_option linter.unusedSimpArgs false
theorem grown_below {w w1 : World} (h : w.grownBy w1 none) : Below w.heap.size w w1 := ⟨h.os, h.tape, h.output, h.size, fun k hk => h.block k hk (by simp)⟩
theorem rel_start {w w0 w1 w2 : World} {base g : Nat} {P X : Nat → Prop} {room : Int} {l : List S32} {x : S32} {v1 v7 : Value} {now : List Int} (hB : BufI w base (fun k => P k ∧ k < w.heap.size) g room l) (hXP : ∀ k, X k → ¬ P k) (hb0 : Below w.heap.size w w0) (hb1 : Below w0.heap.size w0 w1) (hb2 : Below w1.heap.size w1 w2)
  (hs : Kd.S k32 32 w1 base (fun k => X k ∨ w0.heap.size ≤ k) v7 [x]) (hk : (Kd.int .i64).R 3 w2 w1.heap.size (fun _ => True) v1 now) (hc : chkC now = 0) (hbs : base ≤ w.heap.size) (hat : ∃ b, v7.ownBlock = some b ∧ w0.heap.size ≤ b) :
  RelI w base P X g room w2 v1 v7 now [x] l (fun k => P k ∧ k < w.heap.size) (fun k => (X k ∨ w0.heap.size ≤ k) ∧ k < w1.heap.size) (fun k => w1.heap.size ≤ k) := by
 have h0 := hb0.size
 have h1 := hb1.size
 have h2 := hb2.size
 have hbw : Below w.heap.size w w2 := (hb0.trans (hb1.mono h0)).trans (hb2.mono (Nat.le_trans h0 h1))
 refine ⟨hB.below hbw, Kd.S_below (Kd.S_mono (Kd.S_bound hs) (fun k hk => ⟨hk.1, hk.2.2.1⟩)) hb2, Kd.R_lower (Kd.R_mono (Kd.R_bound hk) (fun k hk => hk.2.1)) (by omega), hc, fun k hk => ⟨hk.1, by omega⟩, fun k hk => ⟨fun hp => ?_, by omega⟩, fun k hk => ?_, fun k hk => ⟨fun hp => by omega, fun ho => by omega⟩, Kept.of_below hbw _, fun k hk => ?_⟩
 ·rcases hk.1 with h | h
  ·exact hXP k h hp.1
  ·omega
 ·rcases hk.1 with h | h
  ·exact .inl h
  ·exact .inr (.inr (by omega))
 ·obtain ⟨b, hb, hle⟩ := hat
  rw [hb] at hk
  injection hk with hk
  omega
theorem rel_rows {w wr wd we : World} {base g : Nat} {P P' X O K O1 : Nat → Prop} {room : Int} {left out : List S32} {kv v7 : Value} {now : List Int} (h : RelI w base P X g room wr kv v7 now out left P' O K) (hb : Below wr.heap.size wr wd) (hk : Kept wd we P') (hO1 : ∀ k, O1 k → P' k) :
  Kd.S k32 32 we base (fun k => (O k ∨ O1 k ∨ we.heap.size ≤ k) ∧ ¬ O1 k) v7 out :=
 Kd.S_mono (Kd.S_step (Kd.S_below h.rows hb) (fun k ho hlt => hk.block k hlt (h.OP' k ho).1)) (fun k ho => ⟨.inl ho, fun h1 => (h.OP' k ho).1 (hO1 k h1)⟩)
theorem rel_next {w wr wc wd we wf : World} {base g i : Nat} {P P' X O K O1 : Nat → Prop} {room : Int} {left out : List S32} {kv v7 vn v8 : Value} {now now' : List Int} {y : S32} (h : RelI w base P X g room wr kv v7 now out left P' O K) (hbc : Below wr.heap.size wr wc) (hbd : Below wc.heap.size wc wd) (hn : (Kd.int .i64).R 3 wd wc.heap.size (fun _ => True) vn now') (hc : chkC now' = 0)
  (hk : Kept wd we P') (hO1 : ∀ k, O1 k → P' k) (hbuf : BufI we base (fun k => P' k ∧ ¬ O1 k) g room (left.eraseIdx i)) (hs : Kd.S k32 32 wf base (fun k => O k ∨ O1 k ∨ we.heap.size ≤ k) v8 (out ++ [y])) (hg : we.grownBy wf v7.ownBlock) (hat : v8.ownBlock = v7.ownBlock ∨ ∃ b, v8.ownBlock = some b ∧ we.heap.size ≤ b) :
  RelI w base P X g room wf vn v8 now' (out ++ [y]) (left.eraseIdx i) (fun k => P' k ∧ ¬ O1 k) (fun k => (O k ∨ O1 k ∨ we.heap.size ≤ k) ∧ k < wf.heap.size) (fun k => wc.heap.size ≤ k ∧ k < wd.heap.size) := by
 have h1 := hbc.size
 have h2 := hbd.size
 have h3 := hk.size
 have h4 := hg.size
 have hrow : ∀ k, some k = v7.ownBlock → O k := fun k hk => (Kd.S_R h.rows).1 k hk.symm
 have hbs := h.buf.base_le
 have hP' : ∀ k, P' k → P k ∧ k < wr.heap.size := h.P'P
 refine ⟨hbuf.step (fun k hk hlt => hg.block k hlt (fun e => (h.OP' k (hrow k e)).1 hk.1)), Kd.S_mono (Kd.S_bound hs) (fun k hk => ⟨hk.1, hk.2.2.1⟩), ?_, hc, fun k hk => ⟨(hP' k hk.1).1, by have := (hP' k hk.1).2; omega⟩, fun k hk => ⟨fun hp => ?_, hk.2⟩, fun k hk => ?_, fun k hk => ⟨fun hp => by have := (hP' k hp.1).2; omega, fun ho => ?_⟩, ?_, fun k hk => ?_⟩
 ·refine Kd.R_lower (Kd.R_step (Kd.R_step (Kd.R_mono (Kd.R_bound hn) (ok' := fun k => wc.heap.size ≤ k ∧ k < wd.heap.size) (fun k hk => ⟨hk.2.1, hk.2.2.1⟩)) (fun k ho hlt => hk.block k hlt (fun hp => by have := (hP' k hp).2; omega))) (fun k ho hlt => hg.block k hlt (fun e => by have := (h.OP' k (hrow k e)).2; omega))) (by omega)
 ·rcases hk.1 with h5 | h5 | h5
  ·exact (h.OP' k h5).1 hp.1
  ·exact hp.2 h5
  ·have := (hP' k hp.1).2; omega
 ·rcases hk.1 with h5 | h5 | h5
  ·exact h.OX k h5
  ·exact .inr (.inl (hP' k (hO1 k h5)).1)
  ·have := h.kept.size
   exact .inr (.inr (by omega))
 ·rcases ho.1 with h5 | h5 | h5
  ·have := (h.OP' k h5).2; omega
  ·have := (hP' k (hO1 k h5)).2; omega
  ·omega
 ·have k1 : Kept w wd P := (h.kept.below hbc).below hbd
  have k2 : Kept w we P := k1.then_ hk (fun k hk => .inl (hP' k hk).1)
  exact Kept.of_grown hg k2 (fun k hk => .inr (h.fresh k hk))
 ·have h0 := h.kept.size
  rcases hat with e | ⟨b, e, hle⟩
  ·exact h.fresh k (e ▸ hk)
  ·rw [e] at hk
   injection hk with hk
   omega
theorem dec_lt {n i : Nat} (h : i < n) : n - (intOf (Value.int .i64 ((i + 1 : Nat) : Int))).toNat < n - (intOf (Value.int .i64 (i : Int))).toNat := by
 show n - ((i + 1 : Nat) : Int).toNat < n - (i : Int).toNat
 rw [Int.toNat_natCast, Int.toNat_natCast]
 omega
theorem rel_lit {w w0 : World} {base : Nat} {X : Nat → Prop} {x : S32} {v : Value} (h : (Kd.int .i64).R 3 w base (fun k => X k ∧ base ≤ k ∧ k < w.heap.size ∧ ∃ q, q ∈ 3 :: (Kd.int .i64).E ∧ ∃ cells, w.heap[k]? = some (.cells cells q (0, 0))) v x.f2) (hb : Below w.heap.size w w0) :
  ∀ (j : Nat) (y : S32), [x][j]? = some y → k32.M w0 base (fun k => j = 0 ∧ X k ∧ k < w.heap.size) y (((chL x v).drop (j * k32.sz)).take k32.sz) := by
 intro j y hy
 cases j with
 | zero =>
  injection hy with hy
  subst hy
  exact chMk (Kd.R_mono (Kd.R_below h hb) (fun k hk => ⟨rfl, hk.1, hk.2.2.1⟩))
 | succ j => cases hy
set_option maxHeartbeats 8000000 in
set_option maxRecDepth 100000 in
theorem release_calls {w : World} {base : Nat} {P X : Nat → Prop} {g : Nat} {room : Int} {l : List S32} (hB : BufI w base P g room l) (hn : l.length < 1000) (A0 : Option Addr) (c0 : Nat) (known : List Int) (hk : Kd.C (Kd.int .i64) w A0 known.length known) (hkc : known.length ≤ c0)
  (x : S32) (A3 : Option Addr) (c3 : Nat) (hx : (Kd.int .i64).R 3 w base X (.slice A3 x.f2.length c3) x.f2) (hXP : ∀ k, X k → ¬ P k) (hl64 : ∀ y ∈ l, y.f2.length ≤ 64) :
  Calls Try.prog 38 #[.pointer (some ⟨g, 0, none⟩), .slice A0 known.length c0, (.agg #[.int .i64 x.f0.f0, .int .i64 x.f0.f1, .int .i64 x.f1, (.slice A3 x.f2.length c3), .int .i64 x.f3, .int .i64 x.f4.f0, .int .i64 x.f4.f1, .int .i64 x.f5.f0, .int .i64 x.f5.f1, .int .i64 x.f6.f0, .int .i64 x.f6.f1, .string x.f7, .string x.f8])] w fun e w' => ∃ (P' O : Nat → Prop) (v' : Value), e = .returned v' ∧ BufI w' base P' g room (relF l.length (tickC known x.f0.f1).1 [x] l).2 ∧ Kd.S k32 32 w' base O v' (relF l.length (tickC known x.f0.f1).1 [x] l).1 ∧ (∀ k, P' k → P k) ∧ (∀ k, O k → ¬ P' k) ∧ (∀ k, O k → X k ∨ P k ∨ w.heap.size ≤ k) ∧ Kept w w' P := by
 have HBUF := Aside0.mk hB.bound
 have HC3 := Aside0.mk (Kd.R_reads' hx).2.2
 have HL3 := Aside0.mk (Kd.R_reads' hx).2.1
 have HXR := Aside0.mk (Kd.R_bound hx)
 have HXP := Aside0.mk hXP
 have HK := Aside0.mk hk
 have HKC := Aside0.mk hkc
 have HN := Aside0.mk hn
 have H64 := Aside0.mk hl64
 have HBASE := Aside0.mk hB.base_le
 have HTK := Aside0.mk (causal_tick_is known x 301 (by omega))
 clear hB hx hXP hk hkc hn hl64
 go_enter Try.func38, Try.ntmps38
 go_wp2_with (first | ((with_reducible refine gate_dst (N := 5) rfl ?_); refine boxE (N := 5) (cs := #[.int .i64 x.f0.f0, .int .i64 x.f0.f1, .int .i64 x.f1, (.slice A3 x.f2.length c3), .int .i64 x.f3, .int .i64 x.f4.f0, .int .i64 x.f4.f1, .int .i64 x.f5.f0, .int .i64 x.f5.f1, .int .i64 x.f6.f0, .int .i64 x.f6.f1, .string x.f7, .string x.f8]) (t := 32) ?_; intro gb hr_ w0 hbox hb; have HXgb := Aside0.mk hbox; have HBgb := Aside0.mk hb; have HNgb := Aside0.mk (Nat.le_of_eq hr_.symm); clear hbox hb hr_))
 go_step3
 go_wp2_with (first | ((with_reducible refine gate_dst (N := 10) rfl ?_); refine load32_ev rfl (N := 10) rfl x (.slice A3 x.f2.length c3) (p := .tmp 5) rfl (ad := ⟨gb, 0, none⟩) rfl (blk_cells HXgb.out) ?_) | ((with_reducible refine gate_dst (N := 11) rfl ?_); refine Kd.S_lits k32 (w0 := w0) base 32 ?hg (N := 11) ?hd (xs := [x]) (inner := chL x (.slice A3 x.f2.length c3)) (ok := fun k => X k ∨ w0.heap.size ≤ k) (fun j k => j = 0 ∧ X k ∧ k < w.heap.size) ?hr rfl ?hrep (fun i j k hi hj => hi.1.trans hj.1.symm) (fun j k hj => .inl hj.2.1) (.inr (Nat.le_refl _)) (Below.refl _ _) (Nat.le_trans HBASE.out HBgb.out.size) (by simp) ?_; (case hd => rfl); (case hg => rfl); (case hr => first | (go_simp; done) | (go_simp; rfl)); (case hrep => exact rel_lit HXR.out HBgb.out); intro v7 w1 hs_ hb_ hg_ hat_; have HS1 := Aside0.mk hs_; have HB1 := Aside0.mk (grown_below hg_); have HX1 := Aside0.mk (blk_below HXgb.out (grown_below hg_)); have HAT := Aside0.mk hat_; clear hs_ hb_ hg_ hat_) | ((with_reducible refine gate_dst (N := 13) rfl ?_); refine load32_ev rfl (N := 13) rfl x (.slice A3 x.f2.length c3) (p := .tmp 5) rfl (ad := ⟨gb, 0, none⟩) rfl (blk_cells HX1.out) ?_) | (go_at_call 66; (with_reducible refine (causal_tick.calls 301 A0 c0 known x.f0.f0 x.f0.f1 x.f1 A3 c3 x.f2 x.f3 x.f4.f0 x.f4.f1 x.f5.f0 x.f5.f1 x.f6.f0 x.f6.f1 x.f7 x.f8 _ _ ?s1 ?s2 ?s3 ?s4 HTK.out).mono ?_); (case s1 => exact Kd.C_below (Kd.C_below HK.out HBgb.out) HB1.out); (case s2 => exact HKC.out); (case s3 => exact Kd.C_below (Kd.C_below HC3.out HBgb.out) HB1.out); (case s4 => exact HL3.out); rintro e w2 ⟨v1, rfl, hk2, hb2⟩; have HK2 := Aside0.mk hk2; have HB2 := Aside0.mk hb2; clear hk2 hb2))
 go_step3
 go_wp2_with (fail)
 have hst := rel_start HBUF.out HXP.out HBgb.out HB1.out HB2.out HS1.out HK2.out (tick_chk known x.f0.f1) HBASE.out HAT.out
 have HST := Aside0.mk hst
 clear hst
 go_loopg [1, 7] l.length (fun kq v1' v7' wr => ∃ (now : List Int) (out left : List S32) (P' O K : Nat → Prop) (ov : Value), ov = v7' ∧ Aside0 (left.length = kq) ∧ Aside0 (RelI w base P X g room wr v1' ov now out left P' O K) ∧ Aside0 (relF left.length now out left = relF l.length (tickC known x.f0.f1).1 [x] l) ∧ Aside0 (∀ y ∈ left, y ∈ l) ∧ Aside0 (out.length + left.length = l.length + 1))
 case atStart => exact ⟨_, _, _, _, _, _, _, rfl, ⟨rfl⟩, HST, ⟨rfl⟩, ⟨fun _ h => h⟩, ⟨by rw [List.length_singleton]; omega⟩⟩
 case round =>
  clear HST HK2 HB2 HAT HX1 HB1 HS1 HXgb HTK
  obtain ⟨now, out, left, P', O, K, ov, rfl, HLEN, HR, HF, HSUB, HOL⟩ := hrel
  obtain ⟨wo, rfl⟩ : ∃ wo, wo = wr := ⟨wr, rfl⟩
  obtain ⟨Ak, ck, rfl⟩ := Kd.R_slice HR.out.clk
  obtain ⟨mb, es, cc, A, ch, hO⟩ := HR.out.buf.opened
  have HO := Aside0.mk hO
  have q1 : wo.cell? ⟨g, 1, none⟩ = some (.slice A left.length ch) := (blk_cell hO.blk 1).trans rfl
  clear hO
  go_wp2_with (fail)
  go_loopw [1, 7, 23] (fun v1q v7q v23 wq => ∃ i : Nat, v1q = .slice Ak now.length ck ∧ ov = v7q ∧ v23 = .int .i64 (i : Int) ∧ Aside0 (i ≤ left.length) ∧ Aside0 (∀ m, m < i → ripeC now (rd_T32 left (m : Int)) = false) ∧ Aside0 (Below wo.heap.size wo wq)) (fun _ _ v23 _ => left.length - (intOf v23).toNat)
  case atStart => exact ⟨0, rfl, rfl, rfl, ⟨Nat.zero_le _⟩, ⟨fun m hm => absurd hm (Nat.not_lt_zero m)⟩, ⟨Below.refl _ _⟩⟩
  case round =>
   clear q1
   obtain ⟨i, rfl, rfl, rfl, HI, HNR, HBq⟩ := hrel
   by_cases hi : i < left.length
   case neg =>
    have e1 : decide (i < left.length) = false := decide_eq_false hi
    have hnone : ∀ z ∈ left, ripeC now z = false := fun z hz => by
     obtain ⟨m, hm⟩ := List.mem_iff_getElem?.1 hz
     have hml := (List.getElem?_eq_some_iff.1 hm).1
     rw [rd32_at hml] at hm
     injection hm with hm
     rw [← hm]
     exact HNR.out m (by omega)
    have HE := Aside0.mk ((relF_none (out := out) hnone).symm.trans HF.out)
    clear hnone hi
    go_wp2_with (fail)
    rw [Exit.noGoto_ret]
    go_ret
    refine ⟨P', O, ov, rfl, ?_, ?_, fun k hk => (HR.out.P'P k hk).1, fun k hk => (HR.out.OP' k hk).1, HR.out.OX, HR.out.kept.below HBq.out⟩
    ·rw [← HE.out]
     exact HR.out.buf.below HBq.out
    ·rw [← HE.out]
     exact Kd.S_below HR.out.rows HBq.out
   have HI' := Aside0.mk hi
   obtain ⟨gr, cap, hform, hbgr, hgrw, cells, hgr⟩ := Kd.S_form HO.out.row (by omega)
   injection hform with hA _ hch
   subst hA; subst hch
   obtain ⟨c', hcl, hM, hcc, hfr⟩ := Kd.R_elem (Kd.S_R HO.out.row) z32 (i : Int) (by omega) (by omega)
   rw [Int.toNat_natCast] at hcc
   obtain ⟨v, rfl, hv⟩ := chM hM
   have hv2 : (Kd.int .i64).R 3 wo base _ v (rd_T32 left (i : Int)).f2 := hv
   have hcc2 : ∀ j u, (chL (rd_T32 left (i : Int)) v)[j]? = some u → wo.cell? ⟨gr, i * 13 + j, none⟩ = some u := hcc
   have hy : rd_T32 left (i : Int) ∈ left := List.mem_of_getElem? (rd32_at hi)
   obtain ⟨y, hyy⟩ : ∃ y, rd_T32 left (i : Int) = y := ⟨_, rfl⟩
   rw [hyy] at hv2 hcc2 hy
   clear hv hcc hM hcl hfr
   obtain ⟨Ae, ce, rfl, hle, hCe⟩ := Kd.R_reads hv2
   have HY := Aside0.mk hyy
   have HCC := Aside0.mk hcc2
   have HCE := Aside0.mk (Kd.C_below hCe HBq.out)
   have HLE := Aside0.mk hle
   have HRD := Aside0.mk (ready_is (known := now) (x := y) HR.out.chk (H64.out y (HSUB.out y hy)) 71 (by decide))
   have HGRW := Aside0.mk hgrw
   have b1 : (0 ≤ (i : Int)) = True := eq_true (by omega)
   have b2 : ((i : Int) < (left.length : Int)) = True := eq_true (by omega)
   have b3 : (i < left.length) = True := eq_true hi
   have e1 : decide ((i : Int) < (left.length : Int)) = true := decide_eq_true (by omega)
   clear hyy hcc2 hCe hle hgrw hgr hbgr hv2 hy hi
   by_cases hrp : ripeC now y = true
   ·rw [hrp] at HRD
    have HRP := Aside0.mk hrp
    have HTK2 := Aside0.mk (causal_tick_is now y 301 (by omega))
    clear hrp
    go_wp2_with (first | ((with_reducible refine gate_dst (N := 27) rfl ?_); refine load32_ev rfl (N := 27) rfl y (.slice Ae y.f2.length ce) (p := .tmp 26) rfl (ad := ⟨gr, i * 13, none⟩) rfl (fun j u hj => by rw [add_at]; exact (HBq.out.cell (p := ⟨gr, i * 13 + j, none⟩) HGRW.out).trans (HCC.out j u hj)) ?_) | ((with_reducible refine gate_dst (N := 9) rfl ?_); refine boxE (N := 9) (cs := #[.int .i64 0, .int .i64 0, .int .i64 0, .slice none 0 0, .int .i64 0, .int .i64 0, .int .i64 0, .int .i64 0, .int .i64 0, .int .i64 0, .int .i64 0, .string ⟨#[]⟩, .string ⟨#[]⟩]) (t := 32) ?_; intro gc hr_ wa hbox hb; have HXgc := Aside0.mk hbox; have HBgc := Aside0.mk hb; have HNgc := Aside0.mk (Nat.le_of_eq hr_.symm); clear hbox hb hr_) | ((with_reducible refine gate_store (t := 32) (p := 9) (v := .tmp 27) rfl ?_); refine store32_ev rfl rfl y (.slice Ae y.f2.length ce) (p := .tmp 9) (q := .tmp 27) rfl (g := gc) rfl rfl rfl HXgc.out rfl ?_; intro wb hb_ hg_; have HSgc := Aside0.mk hb_; have HGgc := Aside0.mk hg_; clear hb_ hg_; have HBqb := Aside0.mk (HBgc.out.grown HGgc.out HBgc.out.size (fun k hk => by injection hk with hk; rw [← hk]; exact HNgc.out)); have HBb := Aside0.mk (HBq.out.trans (HBqb.out.mono HBq.out.size))) | ((with_reducible refine gate_dst (N := 29) rfl ?_); refine load32_ev rfl (N := 29) rfl y (.slice Ae y.f2.length ce) (p := .tmp 9) rfl (ad := ⟨gc, 0, none⟩) rfl (blk_cells HSgc.out) ?_) | (go_at_call 37; (with_reducible refine (causal_ready.calls 71 Ak ck now y.f0.f0 y.f0.f1 y.f1 Ae ce y.f2 y.f3 y.f4.f0 y.f4.f1 y.f5.f0 y.f5.f1 y.f6.f0 y.f6.f1 y.f7 y.f8 _ _ ?s1 ?s2 ?s3 ?s4 HRD.out).mono ?_); (case s1 => exact Kd.C_below (Kd.R_reads' HR.out.clk).2.2 HBb.out); (case s2 => exact (Kd.R_reads' HR.out.clk).2.1); (case s3 => exact Kd.C_below HCE.out HBqb.out); (case s4 => exact HLE.out); rintro e wc ⟨rfl, hbc⟩; have HBC := Aside0.mk hbc; clear hbc) | ((with_reducible refine gate_dst (N := 32) rfl ?_); refine load32_ev rfl (N := 32) rfl y (.slice Ae y.f2.length ce) (p := .tmp 9) rfl (ad := ⟨gc, 0, none⟩) rfl (blk_cells (blk_below HSgc.out HBC.out)) ?_) | (go_at_call 66; (with_reducible refine (causal_tick.calls 301 Ak ck now y.f0.f0 y.f0.f1 y.f1 Ae ce y.f2 y.f3 y.f4.f0 y.f4.f1 y.f5.f0 y.f5.f1 y.f6.f0 y.f6.f1 y.f7 y.f8 _ _ ?s1 ?s2 ?s3 ?s4 HTK2.out).mono ?_); (case s1 => exact Kd.C_below (Kd.C_below (Kd.R_reads' HR.out.clk).2.2 HBb.out) HBC.out); (case s2 => exact (Kd.R_reads' HR.out.clk).2.1); (case s3 => exact Kd.C_below (Kd.C_below HCE.out HBqb.out) HBC.out); (case s4 => exact HLE.out); rintro e wd ⟨vn, rfl, hn2, hbd⟩; have HN2 := Aside0.mk hn2; have HBD := Aside0.mk hbd; have HOC := Aside0.mk (HBb.out.trans (HBC.out.mono HBb.out.size)); have HOD := Aside0.mk (HOC.out.trans (HBD.out.mono HOC.out.size)); clear hn2 hbd) | (go_at_call 56; (with_reducible refine (take_calls (HR.out.buf.below HOD.out) i HI'.out ?s1).mono ?_); (case s1 => have h1_ := HN.out; have h2_ := HOL.out; omega); rw [HY.out]; rintro e we ⟨O1, v1e, rfl, hv1, hO1P, hbuf, hkp⟩; have HV1 := Aside0.mk hv1; have HO1P := Aside0.mk hO1P; have HBUF1 := Aside0.mk hbuf; have HKP := Aside0.mk hkp; have HROWS := Aside0.mk (rel_rows HR.out HOD.out HKP.out HO1P.out); clear hv1 hO1P hbuf hkp) | ((with_reducible refine gate_builtin (b := .append) (xs := #[.tmp 34, .tmp 38]) rfl ?_); at_builtin; refine Kd.S_append k32 (w0 := we) base rfl (.tmp 34) (.tmp 38) 22 32 (.agg #[.int .i64 0, .int .i64 0, .int .i64 0, .slice none 0 0, .int .i64 0, .int .i64 0, .int .i64 0, .int .i64 0, .int .i64 0, .int .i64 0, .int .i64 0, .string ⟨#[]⟩, .string ⟨#[]⟩]) 136 rfl Try.underlying22 info32 rfl (by decide) (by omega) ov out y (chL y v1e) (fun k => O k ∨ O1 k ∨ we.heap.size ≤ k) O1 rfl rfl (chMk HV1.out) ?hokp (fun k hk => .inr (.inr hk)) HROWS.out (Below.refl _ _) HBUF1.out.base_le ?hl ?_; (case hokp => exact fun k hk => ⟨.inr (.inl hk), fun e => (HR.out.OP' k ((Kd.S_R HR.out.rows).1 k e.symm)).1 (HO1P.out k hk)⟩); (case hl => have h1_ := HN.out; have h2_ := HOL.out; omega); intro v8 wf hs8 hb8 hg8 hat8; have HS8 := Aside0.mk hs8; have HG8 := Aside0.mk hg8; have HAT8 := Aside0.mk hat8; clear hs8 hb8 hg8 hat8))
    have hnx := relF_next (now := now) (out := out) HI'.out (by rw [HY.out]; exact HRP.out) (fun m hm => HNR.out m hm)
    rw [HY.out] at hnx
    have HNX := Aside0.mk (hnx.symm.trans HF.out)
    clear hnx
    go_roundg (left.length - 1)
    case measure => have h1_ := HLEN.out; have h2_ := HI'.out; omega
    case rel =>
     exact ⟨_, _, _, _, _, _, _, rfl, ⟨List.length_eraseIdx_of_lt HI'.out⟩, ⟨rel_next HR.out HOC.out HBD.out HN2.out (tick_chk _ _) HKP.out HO1P.out HBUF1.out HS8.out HG8.out HAT8.out⟩, HNX, ⟨fun z hz => HSUB.out z (List.mem_of_mem_eraseIdx hz)⟩, ⟨by rw [List.length_append, List.length_singleton, List.length_eraseIdx_of_lt HI'.out]; have h1_ := HI'.out; have h2_ := HOL.out; omega⟩⟩
   ·have hrf : ripeC now y = false := by simpa using hrp
    rw [hrf] at HRD
    have HRP := Aside0.mk hrf
    clear hrp hrf
    go_wp2_with (first | ((with_reducible refine gate_dst (N := 27) rfl ?_); refine load32_ev rfl (N := 27) rfl y (.slice Ae y.f2.length ce) (p := .tmp 26) rfl (ad := ⟨gr, i * 13, none⟩) rfl (fun j u hj => by rw [add_at]; exact (HBq.out.cell (p := ⟨gr, i * 13 + j, none⟩) HGRW.out).trans (HCC.out j u hj)) ?_) | ((with_reducible refine gate_dst (N := 9) rfl ?_); refine boxE (N := 9) (cs := #[.int .i64 0, .int .i64 0, .int .i64 0, .slice none 0 0, .int .i64 0, .int .i64 0, .int .i64 0, .int .i64 0, .int .i64 0, .int .i64 0, .int .i64 0, .string ⟨#[]⟩, .string ⟨#[]⟩]) (t := 32) ?_; intro gc hr_ wa hbox hb; have HXgc := Aside0.mk hbox; have HBgc := Aside0.mk hb; have HNgc := Aside0.mk (Nat.le_of_eq hr_.symm); clear hbox hb hr_) | ((with_reducible refine gate_store (t := 32) (p := 9) (v := .tmp 27) rfl ?_); refine store32_ev rfl rfl y (.slice Ae y.f2.length ce) (p := .tmp 9) (q := .tmp 27) rfl (g := gc) rfl rfl rfl HXgc.out rfl ?_; intro wb hb_ hg_; have HSgc := Aside0.mk hb_; have HGgc := Aside0.mk hg_; clear hb_ hg_; have HBqb := Aside0.mk (HBgc.out.grown HGgc.out HBgc.out.size (fun k hk => by injection hk with hk; rw [← hk]; exact HNgc.out)); have HBb := Aside0.mk (HBq.out.trans (HBqb.out.mono HBq.out.size))) | ((with_reducible refine gate_dst (N := 29) rfl ?_); refine load32_ev rfl (N := 29) rfl y (.slice Ae y.f2.length ce) (p := .tmp 9) rfl (ad := ⟨gc, 0, none⟩) rfl (blk_cells HSgc.out) ?_) | (go_at_call 37; (with_reducible refine (causal_ready.calls 71 Ak ck now y.f0.f0 y.f0.f1 y.f1 Ae ce y.f2 y.f3 y.f4.f0 y.f4.f1 y.f5.f0 y.f5.f1 y.f6.f0 y.f6.f1 y.f7 y.f8 _ _ ?s1 ?s2 ?s3 ?s4 HRD.out).mono ?_); (case s1 => exact Kd.C_below (Kd.R_reads' HR.out.clk).2.2 HBb.out); (case s2 => exact (Kd.R_reads' HR.out.clk).2.1); (case s3 => exact Kd.C_below HCE.out HBqb.out); (case s4 => exact HLE.out); rintro e wc ⟨rfl, hbc⟩; have HBC := Aside0.mk hbc; clear hbc))
    have hiw : i < 100000 := by have h1_ := HI'.out; have h2_ := HN.out; have h3_ := HOL.out; omega
    rw [Go.Proofs.Ytnopjjilpgekfaa.PCa.w1 hiw]
    refine ⟨⟨i + 1, rfl, rfl, rfl, ⟨HI'.out⟩, ⟨fun m hm => ?_⟩, ⟨HBb.out.trans (HBC.out.mono HBb.out.size)⟩⟩, dec_lt HI'.out⟩
    rcases Nat.lt_or_eq_of_le (Nat.le_of_lt_succ hm) with h1_ | h1_
    ·exact HNR.out m h1_
    ·rw [h1_, HY.out]
     exact HRP.out
theorem copy_is (y : S32) (h : y.f2.length ≤ 64) : change_Copy.f y.f0.f0 y.f0.f1 y.f1 y.f2 y.f3 y.f4.f0 y.f4.f1 y.f5.f0 y.f5.f1 y.f6.f0 y.f6.f1 y.f7 y.f8 = some (y.f0.f0, y.f0.f1, y.f1, y.f2, y.f3, y.f4.f0, y.f4.f1, y.f5.f0, y.f5.f1, y.f6.f0, y.f6.f1, y.f7, y.f8) := by
 unfold change_Copy.f
 rw [Option.bind_some, if_pos (by simp only [List.length_nil]; omega), List.nil_append]
def seaa.T5 : Bool × List (List Nat × List Nat) := (true, [([], []), ([], []), ([], []), ([1, 2], [1, 2]), ([3], [3]), ([], []), ([0, 4, 5], [0, 4, 5]), ([6], [6])])
def seaa.B5 : List Nat := [0, 0, 0, 6, 14, 0, 63, 127]
theorem seaa.tab5 : rtab .any (opsOf Try.f41 5) = seaa.T5 := by kernel_rfl
theorem seaa.bits5 : waitsOk seaa.T5.2 seaa.B5 = true := by kernel_rfl
def seab.T8 : Bool × List (List Nat × List Nat) := (true, [([], []), ([], []), ([], []), ([1, 2], [1, 2]), ([3], [3]), ([4], [4]), ([4], [4]), ([4], [4]), ([6, 7, 4], [4, 6, 7]), ([8, 4], [4, 8]), ([4], [4]), ([5, 9, 10, 4, 4], [4, 5, 9, 10]), ([11, 4], [4, 11]), ([4, 12], [4, 12]), ([0, 11, 0], [0]), ([13, 14, 0, 1, 2, 3, 4, 5, 6, 7, 8, 9, 10, 11, 12, 13, 14], [13])])
def seab.B8 : List Nat := [0, 0, 0, 6, 14, 30, 30, 30, 222, 478, 30, 2046, 4094, 8190, 4095, 32767]
theorem seab.tab8 : rtab .any (opsOf Try.f41 8) = seab.T8 := by kernel_rfl
theorem seab.bits8 : waitsOk seab.T8.2 seab.B8 = true := by kernel_rfl
theorem goesF_ {P : Program} {ops : Array Oper} {Q : Exit → Act → World → Prop} {oi : Oper} {N : Option Tmp} {a : Act} {w : World} {K : Act → World → Prop} {f : FuncId} {fn : Func} {p : Operand} {ar : Array Operand} {ts : Array TypeId} (hf : P.funcs[f]? = some fn) (hname : (fn.name == "runtime.NumGoroutine") = false) (hb : fn.body.isSome = true) (args : Array Value)
  (hw : Region.wanted oi (yielded ops a.tmps) = true) (hN : oi.dst = N) (hop : oi.op = .call { callee := .value p, args := ar, argTypes := ts }) (hp : a.eval p = .func (.func f) #[] #[]) (hargs : ar.map a.eval = args)
  (h : Calls P f args w fun e w' => ∃ v, e = .returned v ∧ K (a.put N v) w') : if Region.wanted oi (yielded ops a.tmps) = true then Oper.wp P oi a w K Q else K (a.put N undef) w := by
 refine call_ f args hw hN ?_ h
 have he := enters_ hf hname hb args w
 unfold execOp
 simp only [hop, resolve, hp]
 simp [Deferred.ofValue, invoke, hargs, he]
theorem count_first {α : Type} (p : α → Bool) : ∀ (l : List α) (i : Nat), i ≤ l.length → (∀ t a, t < i → l[t]? = some a → p a = true) → (∀ t a, i ≤ t → l[t]? = some a → p a = false) → l.countP p = i
 | [], i, hi, _, _ => by simp at hi; simp [hi]
 | a :: r, 0, _, _, h2 => by
  rw [List.countP_eq_zero]
  intro x hx
  obtain ⟨t, ht⟩ := List.mem_iff_getElem?.1 hx
  rw [h2 t x (Nat.zero_le _) ht]
  decide
 | a :: r, i + 1, hi, h1, h2 => by
  rw [List.countP_cons_of_pos (h1 0 a (Nat.succ_pos _) rfl), count_first p r i (by simpa using hi) (fun t b ht hb => h1 (t + 1) b (by omega) hb) (fun t b ht hb => h2 (t + 1) b (by omega) hb)]
def SearchPost (n : Nat) (w : World) (e : Ending) (w' : World) : Prop := ∃ b, e = .returned (.tuple #[.int .i64 (n : Int), .bool b]) ∧ Below w.heap.size w w'
theorem SearchPost.mk {n m : Nat} {w w' : World} {e : Ending} (h : n = m) (b : Bool) (he : e = .returned (.tuple #[.int .i64 (m : Int), .bool b])) (hb : Below w.heap.size w w') : SearchPost n w e w' := ⟨b, by rw [h]; exact he, hb⟩
def cntX (x : S32) (l : List S32) : Nat := l.countP (fun y => decide (cmpX y x < 0))
set_option maxHeartbeats 8000000 in
set_option maxRecDepth 100000 in
theorem search_calls {w : World} {base : Nat} {ok : Nat → Prop} {A : Option Addr} {c0 : Nat} {l : List S32} (hS : Kd.S k32 32 w base ok (.slice A l.length c0) l) (hn : l.length < 1000) (x : S32) (A3 : Option Addr) (c3 : Nat) (hx : Kd.C (Kd.int .i64) w A3 x.f2.length x.f2) (hx3 : x.f2.length ≤ c3)
  (hb : ∀ y ∈ l, 0 ≤ y.f1 ∧ y.f1 ≤ 1099511627776) (hbx : 0 ≤ x.f1 ∧ x.f1 ≤ 1099511627776) (hmono : ∀ a b, a ≤ b → b < l.length → cmpX (rd_T32 l (b : Nat)) x < 0 → cmpX (rd_T32 l (a : Nat)) x < 0) :
  Calls Try.prog 41 #[.slice A l.length c0, (.agg #[.int .i64 x.f0.f0, .int .i64 x.f0.f1, .int .i64 x.f1, (.slice A3 x.f2.length c3), .int .i64 x.f3, .int .i64 x.f4.f0, .int .i64 x.f4.f1, .int .i64 x.f5.f0, .int .i64 x.f5.f1, .int .i64 x.f6.f0, .int .i64 x.f6.f1, .string x.f7, .string x.f8]), .func (.func 42) #[] #[]] w (SearchPost (cntX x l) w) := by
 have HS := Aside0.mk hS
 have HN := Aside0.mk hn
 have HX := Aside0.mk hx
 have HX3 := Aside0.mk hx3
 have HB := Aside0.mk hb
 have HBX := Aside0.mk hbx
 have HM := Aside0.mk hmono
 clear hS hn hx hx3 hb hbx hmono
 go_enter Try.func41, Try.ntmps41
 go_wp2_with (first | ((with_reducible refine gate_dst (N := 4) rfl ?_); refine boxE (N := 4) (cs := #[.int .i64 x.f0.f0, .int .i64 x.f0.f1, .int .i64 x.f1, (.slice A3 x.f2.length c3), .int .i64 x.f3, .int .i64 x.f4.f0, .int .i64 x.f4.f1, .int .i64 x.f5.f0, .int .i64 x.f5.f1, .int .i64 x.f6.f0, .int .i64 x.f6.f1, .string x.f7, .string x.f8]) (t := 32) ?_; intro gb hr_ w0 hbox hb; have HXgb := Aside0.mk hbox; have HBgb := Aside0.mk hb; have HNgb := Aside0.mk (Nat.le_of_eq hr_.symm); clear hbox hb hr_))
 go_loopg [9, 10] l.length (fun kx s9 s10 wr => ∃ lo hi : Nat, s9 = .int .i64 lo ∧ s10 = .int .i64 hi ∧ Aside0 (lo ≤ hi) ∧ Aside0 (hi ≤ l.length) ∧ Aside0 (hi - lo ≤ kx) ∧ Aside0 (Below w0.heap.size w0 wr) ∧
  Aside0 ((∀ t, t < lo → cmpX (rd_T32 l (t : Nat)) x < 0) ∧ (∀ t, hi ≤ t → t < l.length → 0 ≤ cmpX (rd_T32 l (t : Nat)) x)))
 case atStart => exact ⟨0, l.length, rfl, rfl, ⟨Nat.zero_le _⟩, ⟨Nat.le_refl _⟩, ⟨by omega⟩, ⟨Below.refl _ _⟩, ⟨⟨fun t ht => absurd ht (Nat.not_lt_zero _), fun t h1 h2 => by omega⟩⟩⟩
 case round =>
  obtain ⟨lo, hi, rfl, rfl, HLH, HIN, HG, HBL, HI⟩ := hrel
  obtain ⟨wo, rfl⟩ : ∃ wo, wo = wr := ⟨wr, rfl⟩
  by_cases hlt : lo < hi
  ·have hlb := HIN.out
   have hnb := HN.out
   go_wp2_with (fail)
   obtain ⟨m, hm⟩ : ∃ m : Nat, ((lo : Int) + (hi : Int)) / 2 = (m : Int) := ⟨(lo + hi) / 2, by omega⟩
   rw [hm]
   have hm1 : lo ≤ m := by omega
   have hm2 : m < hi := by omega
   have hml : m < l.length := by omega
   obtain ⟨gr, cap, hform, hbgr, hgrw, cells, hgr⟩ := Kd.S_form HS.out (by omega)
   injection hform with hA _ hch
   subst hA; subst hch
   obtain ⟨c', hcl, hM, hcc, hfr⟩ := Kd.R_elem (Kd.S_R HS.out) z32 (m : Int) (by omega) (by omega)
   rw [Int.toNat_natCast] at hcc
   obtain ⟨v, rfl, hv⟩ := chM hM
   have hv2 : (Kd.int .i64).R 3 w base _ v (rd_T32 l (m : Int)).f2 := hv
   have hcc2 : ∀ j u, (chL (rd_T32 l (m : Int)) v)[j]? = some u → w.cell? ⟨gr, m * 13 + j, none⟩ = some u := hcc
   have hy : rd_T32 l (m : Int) ∈ l := List.mem_of_getElem? (rd32_at hml)
   obtain ⟨y, hyy⟩ : ∃ y, rd_T32 l (m : Int) = y := ⟨_, rfl⟩
   rw [hyy] at hv2 hcc2 hy
   clear hv hcc hM hcl hfr
   obtain ⟨Ae, ce, rfl, hle, hCe⟩ := Kd.R_reads hv2
   have hbw : Below w.heap.size w wo.drew := below_drew (HBgb.out.trans (HBL.out.mono HBgb.out.size))
   have HBW := Aside0.mk hbw
   have hS5 : (fun w' => (∀ j u, (chL y (.slice Ae y.f2.length ce))[j]? = some u → w'.cell? ((⟨gr, m * 13, none⟩ : Addr).add j) = some u) ∧ w'.heap[gb]? = some (.cells (chA x (.slice A3 x.f2.length c3)) 32 (0, 0))) wo.drew := ⟨fun j u hj => by rw [add_at]; exact (hbw.cell (p := ⟨gr, m * 13 + j, none⟩) hgrw).trans (hcc2 j u hj), blk_below HXgb.out (below_drew HBL.out)⟩
   have HS5 := Aside0.mk hS5
   have HY := Aside0.mk hyy
   have HCE := Aside0.mk (Kd.C_below hCe hbw)
   have HCX := Aside0.mk (Kd.C_below HX.out hbw)
   have HLE := Aside0.mk hle
   have HCMP := Aside0.mk (compare_is y x (HB.out y hy) HBX.out)
   have HM1 := Aside0.mk hm1
   have HM2 := Aside0.mk hm2
   have HML := Aside0.mk hml
   have b1 : (0 ≤ (m : Int)) = True := eq_true (by omega)
   have b2 : ((m : Int) < (l.length : Int)) = True := eq_true (by omega)
   have b3 : (m < l.length) = True := eq_true hml
   clear hlb hnb hm hm1 hm2 hml hgr hbgr hgrw hv2 hcc2 hy hyy hCe hle hbw hS5 hlt
   obtain ⟨r, hr⟩ : ∃ r, cmpX y x = r := ⟨_, rfl⟩
   rw [hr] at HCMP
   have HRX := Aside0.mk hr
   clear hr
   by_cases hneg : r < 0
   ·have d1 : decide (r < 0) = true := decide_eq_true hneg
    have HNG := Aside0.mk hneg
    clear hneg
    refine startS (n := 8) (S := (fun w' => (∀ j u, (chL y (.slice Ae y.f2.length ce))[j]? = some u → w'.cell? ((⟨gr, m * 13, none⟩ : Addr).add j) = some u) ∧ w'.heap[gb]? = some (.cells (chA x (.slice A3 x.f2.length c3)) 32 (0, 0)))) (ds := []) (HS5.out) (fun hHeld => ?_)
    refine with_tabW seaa.tab5 seaa.bits5 (fun HT_ HW_ => ?_)
    refine pureT (i := 0) (N := (some 24)) HT_ ?_
    refine pureT (i := 1) (N := (some 25)) HT_ ?_
    refine pureT (i := 2) (N := (some 26)) HT_ ?_
    refine pureT (i := 3) (N := (some 27)) HT_ ?_
    refine takeS (i := 4) (N := (some 28)) (v := ?_) HT_ HW_ hHeld ?_ ?_
    rotate_left
    ·rintro w' ⟨s0, s1⟩
     refine Eq.trans (load32_run (x := y) (v := (.slice Ae y.f2.length ce)) _ (p := .tmp 27) ?ho_ ?hp_ s0) ?hr_
     case ho_ => rfl
     case hp_ => rfl
     case hr_ => rfl
    refine normS (N := (some 28)) ?_
    refine takeS (i := 5) (N := (some 29)) (v := ?_) HT_ HW_ hHeld ?_ ?_
    rotate_left
    ·rintro w' ⟨s0, s1⟩
     refine Eq.trans (load32_run (x := x) (v := (.slice A3 x.f2.length c3)) _ (p := .tmp 4) ?ho_ ?hp_ (blk_cells s1)) ?hr_
     case ho_ => rfl
     case hp_ => rfl
     case hr_ => rfl
    refine normS (N := (some 29)) ?_
    refine oneS (i := 6) (N := (some 30)) HT_ (fun K hK => ?_)
    refine goesF_ Try.func42 (by kernel_rfl) rfl #[(.agg #[.int .i64 y.f0.f0, .int .i64 y.f0.f1, .int .i64 y.f1, (.slice Ae y.f2.length ce), .int .i64 y.f3, .int .i64 y.f4.f0, .int .i64 y.f4.f1, .int .i64 y.f5.f0, .int .i64 y.f5.f1, .int .i64 y.f6.f0, .int .i64 y.f6.f1, .string y.f7, .string y.f8]), (.agg #[.int .i64 x.f0.f0, .int .i64 x.f0.f1, .int .i64 x.f1, (.slice A3 x.f2.length c3), .int .i64 x.f3, .int .i64 x.f4.f0, .int .i64 x.f4.f1, .int .i64 x.f5.f0, .int .i64 x.f5.f1, .int .i64 x.f6.f0, .int .i64 x.f6.f1, .string x.f7, .string x.f8])] (by rfl) rfl (p := .tmp 24) rfl rfl argS ?_
    refine (causal_compare.calls y.f0.f0 y.f0.f1 y.f1 Ae ce y.f2 y.f3 y.f4.f0 y.f4.f1 y.f5.f0 y.f5.f1 y.f6.f0 y.f6.f1 y.f7 y.f8 x.f0.f0 x.f0.f1 x.f1 A3 c3 x.f2 x.f3 x.f4.f0 x.f4.f1 x.f5.f0 x.f5.f1 x.f6.f0 x.f6.f1 x.f7 x.f8 r _ HCE.out HLE.out HCX.out HX3.out HCMP.out).mono ?_
    rintro e w5 ⟨rfl, hb5⟩
    refine ⟨_, rfl, ?_⟩
    have hS6 : (fun w' => (∀ j u, (chL y (.slice Ae y.f2.length ce))[j]? = some u → w'.cell? ((⟨gr, m * 13, none⟩ : Addr).add j) = some u) ∧ w'.heap[gb]? = some (.cells (chA x (.slice A3 x.f2.length c3)) 32 (0, 0))) w5 := ⟨fun j u hj => (World.cell?_of_block (hb5.block _ (World.block_lt_of_cell? _ _ (hHeld.1 j u hj)))).trans (hHeld.1 j u hj), blk_below hHeld.2 hb5⟩
    have HB5 := Aside0.mk hb5
    clear hb5
    refine hK.out _ _ (hS6) (fun hHeld => ?_)
    clear hK K
    refine normS (N := (some 30)) ?_
    refine pureT (i := 7) (N := (some 31)) HT_ ?_
    refine done_ (done_of HT_.out (by kernel_rfl)) ?_
    go_wp2_with (fail)
    have hmw : m < 100000 := by have h1_ := HML.out; have h2_ := HN.out; omega
    rw [Go.Proofs.Ytnopjjilpgekfaa.PCa.w1 hmw]
    go_roundg (hi - (m + 1))
    case measure => have h1_ := HG.out; have h2_ := HM1.out; have h3_ := HM2.out; omega
    case rel =>
     refine ⟨m + 1, hi, rfl, rfl, ⟨HM2.out⟩, HIN, ⟨Nat.le_refl _⟩, ⟨HBL.out.trans ((below_drew (Below.refl _ _)).trans (HB5.out.mono (Nat.le_refl _)) |>.mono HBL.out.size)⟩, ⟨fun t ht => ?_, HI.out.2⟩⟩
     exact HM.out t m (Nat.le_of_lt_succ ht) HML.out (by rw [HY.out, HRX.out]; exact HNG.out)
   ·have d1 : decide (r < 0) = false := decide_eq_false hneg
    have HNG := Aside0.mk hneg
    clear hneg
    refine startS (n := 8) (S := (fun w' => (∀ j u, (chL y (.slice Ae y.f2.length ce))[j]? = some u → w'.cell? ((⟨gr, m * 13, none⟩ : Addr).add j) = some u) ∧ w'.heap[gb]? = some (.cells (chA x (.slice A3 x.f2.length c3)) 32 (0, 0)))) (ds := []) (HS5.out) (fun hHeld => ?_)
    refine with_tabW seaa.tab5 seaa.bits5 (fun HT_ HW_ => ?_)
    refine pureT (i := 0) (N := (some 24)) HT_ ?_
    refine pureT (i := 1) (N := (some 25)) HT_ ?_
    refine pureT (i := 2) (N := (some 26)) HT_ ?_
    refine pureT (i := 3) (N := (some 27)) HT_ ?_
    refine takeS (i := 4) (N := (some 28)) (v := ?_) HT_ HW_ hHeld ?_ ?_
    rotate_left
    ·rintro w' ⟨s0, s1⟩
     refine Eq.trans (load32_run (x := y) (v := (.slice Ae y.f2.length ce)) _ (p := .tmp 27) ?ho_ ?hp_ s0) ?hr_
     case ho_ => rfl
     case hp_ => rfl
     case hr_ => rfl
    refine normS (N := (some 28)) ?_
    refine takeS (i := 5) (N := (some 29)) (v := ?_) HT_ HW_ hHeld ?_ ?_
    rotate_left
    ·rintro w' ⟨s0, s1⟩
     refine Eq.trans (load32_run (x := x) (v := (.slice A3 x.f2.length c3)) _ (p := .tmp 4) ?ho_ ?hp_ (blk_cells s1)) ?hr_
     case ho_ => rfl
     case hp_ => rfl
     case hr_ => rfl
    refine normS (N := (some 29)) ?_
    refine oneS (i := 6) (N := (some 30)) HT_ (fun K hK => ?_)
    refine goesF_ Try.func42 (by kernel_rfl) rfl #[(.agg #[.int .i64 y.f0.f0, .int .i64 y.f0.f1, .int .i64 y.f1, (.slice Ae y.f2.length ce), .int .i64 y.f3, .int .i64 y.f4.f0, .int .i64 y.f4.f1, .int .i64 y.f5.f0, .int .i64 y.f5.f1, .int .i64 y.f6.f0, .int .i64 y.f6.f1, .string y.f7, .string y.f8]), (.agg #[.int .i64 x.f0.f0, .int .i64 x.f0.f1, .int .i64 x.f1, (.slice A3 x.f2.length c3), .int .i64 x.f3, .int .i64 x.f4.f0, .int .i64 x.f4.f1, .int .i64 x.f5.f0, .int .i64 x.f5.f1, .int .i64 x.f6.f0, .int .i64 x.f6.f1, .string x.f7, .string x.f8])] (by rfl) rfl (p := .tmp 24) rfl rfl argS ?_
    refine (causal_compare.calls y.f0.f0 y.f0.f1 y.f1 Ae ce y.f2 y.f3 y.f4.f0 y.f4.f1 y.f5.f0 y.f5.f1 y.f6.f0 y.f6.f1 y.f7 y.f8 x.f0.f0 x.f0.f1 x.f1 A3 c3 x.f2 x.f3 x.f4.f0 x.f4.f1 x.f5.f0 x.f5.f1 x.f6.f0 x.f6.f1 x.f7 x.f8 r _ HCE.out HLE.out HCX.out HX3.out HCMP.out).mono ?_
    rintro e w5 ⟨rfl, hb5⟩
    refine ⟨_, rfl, ?_⟩
    have hS6 : (fun w' => (∀ j u, (chL y (.slice Ae y.f2.length ce))[j]? = some u → w'.cell? ((⟨gr, m * 13, none⟩ : Addr).add j) = some u) ∧ w'.heap[gb]? = some (.cells (chA x (.slice A3 x.f2.length c3)) 32 (0, 0))) w5 := ⟨fun j u hj => (World.cell?_of_block (hb5.block _ (World.block_lt_of_cell? _ _ (hHeld.1 j u hj)))).trans (hHeld.1 j u hj), blk_below hHeld.2 hb5⟩
    have HB5 := Aside0.mk hb5
    clear hb5
    refine hK.out _ _ (hS6) (fun hHeld => ?_)
    clear hK K
    refine normS (N := (some 30)) ?_
    refine pureT (i := 7) (N := (some 31)) HT_ ?_
    refine done_ (done_of HT_.out (by kernel_rfl)) ?_
    go_wp2_with (fail)
    go_roundg (m - lo)
    case measure => have h1_ := HG.out; have h2_ := HM1.out; have h3_ := HM2.out; omega
    case rel =>
     refine ⟨lo, m, rfl, rfl, HM1, ⟨Nat.le_of_lt HML.out⟩, ⟨Nat.le_refl _⟩, ⟨HBL.out.trans ((below_drew (Below.refl _ _)).trans (HB5.out.mono (Nat.le_refl _)) |>.mono HBL.out.size)⟩, ⟨HI.out.1, fun t ht htl => Int.not_lt.1 fun h => ?_⟩⟩
     have h1_ := HM.out m t ht htl h
     rw [HY.out, HRX.out] at h1_
     have h2_ := HNG.out
     omega
  ·have hcn : cntX x l = lo := by
    have h0 := HLH.out
    refine count_first _ l lo (by have := HIN.out; omega) (fun t a ht ha => ?_) (fun t a ht ha => ?_)
    ·have htl := (List.getElem?_eq_some_iff.1 ha).1
     rw [rd32_at htl] at ha
     injection ha with ha
     rw [← ha]
     exact decide_eq_true (HI.out.1 t ht)
    ·have htl := (List.getElem?_eq_some_iff.1 ha).1
     rw [rd32_at htl] at ha
     injection ha with ha
     rw [← ha]
     exact decide_eq_false (Int.not_lt.2 (HI.out.2 t (by omega) htl))
   have HCN := Aside0.mk hcn
   clear hcn
   have g1 : decide (lo < hi) = false := decide_eq_false hlt
   clear hlt
   by_cases hln : lo < l.length
   ·obtain ⟨m, hmm⟩ : ∃ m, lo = m := ⟨_, rfl⟩
    rw [hmm] at HCN hln g1 ⊢
    clear hmm
    obtain ⟨gr, cap, hform, hbgr, hgrw, cells, hgr⟩ := Kd.S_form HS.out (by omega)
    injection hform with hA _ hch
    subst hA; subst hch
    obtain ⟨c', hcl, hM, hcc, hfr⟩ := Kd.R_elem (Kd.S_R HS.out) z32 (m : Int) (by omega) (by omega)
    rw [Int.toNat_natCast] at hcc
    obtain ⟨v, rfl, hv⟩ := chM hM
    have hv2 : (Kd.int .i64).R 3 w base _ v (rd_T32 l (m : Int)).f2 := hv
    have hcc2 : ∀ j u, (chL (rd_T32 l (m : Int)) v)[j]? = some u → w.cell? ⟨gr, m * 13 + j, none⟩ = some u := hcc
    have hy : rd_T32 l (m : Int) ∈ l := List.mem_of_getElem? (rd32_at hln)
    obtain ⟨y, hyy⟩ : ∃ y, rd_T32 l (m : Int) = y := ⟨_, rfl⟩
    rw [hyy] at hv2 hcc2 hy
    clear hv hcc hM hcl hfr
    obtain ⟨Ae, ce, rfl, hle, hCe⟩ := Kd.R_reads hv2
    have hbw : Below w.heap.size w wo.drew := below_drew (HBgb.out.trans (HBL.out.mono HBgb.out.size))
    have HBW := Aside0.mk hbw
    have hS5 : (fun w' => (∀ j u, (chL y (.slice Ae y.f2.length ce))[j]? = some u → w'.cell? ((⟨gr, m * 13, none⟩ : Addr).add j) = some u) ∧ w'.heap[gb]? = some (.cells (chA x (.slice A3 x.f2.length c3)) 32 (0, 0))) wo.drew := ⟨fun j u hj => by rw [add_at]; exact (hbw.cell (p := ⟨gr, m * 13 + j, none⟩) hgrw).trans (hcc2 j u hj), blk_below HXgb.out (below_drew HBL.out)⟩
    have HS5 := Aside0.mk hS5
    have HCE := Aside0.mk (Kd.C_below hCe hbw)
    have HCX := Aside0.mk (Kd.C_below HX.out hbw)
    have HLE := Aside0.mk hle
    have HCMP := Aside0.mk (compare_is y x (HB.out y hy) HBX.out)
    have b1 : (0 ≤ (m : Int)) = True := eq_true (by omega)
    have b2 : ((m : Int) < (l.length : Int)) = True := eq_true (by omega)
    have b3 : (m < l.length) = True := eq_true hln
    have b4 : decide (m < l.length) = true := decide_eq_true hln
    clear hgr hbgr hgrw hv2 hcc2 hy hyy hCe hle hbw hS5 hln
    obtain ⟨r, hr⟩ : ∃ r, cmpX y x = r := ⟨_, rfl⟩
    rw [hr] at HCMP
    clear hr
    go_wp2_with (fail)
    refine startS (n := 16) (S := (fun w' => (∀ j u, (chL y (.slice Ae y.f2.length ce))[j]? = some u → w'.cell? ((⟨gr, m * 13, none⟩ : Addr).add j) = some u) ∧ w'.heap[gb]? = some (.cells (chA x (.slice A3 x.f2.length c3)) 32 (0, 0)))) (ds := []) (HS5.out) (fun hHeld => ?_)
    refine with_tabW seab.tab8 seab.bits8 (fun HT_ HW_ => ?_)
    refine pureT (i := 0) (N := (some 35)) HT_ ?_
    refine pureT (i := 1) (N := (some 36)) HT_ ?_
    refine pureT (i := 2) (N := (some 37)) HT_ ?_
    refine pureT (i := 3) (N := (some 38)) HT_ ?_
    refine pureT (i := 4) (N := (some 39)) HT_ ?_
    refine pureT (i := 5) (N := (some 40)) HT_ ?_
    refine pureT (i := 6) (N := (some 41)) HT_ ?_
    refine pureT (i := 7) (N := (some 42)) HT_ ?_
    refine pureT (i := 8) (N := (some 43)) HT_ ?_
    refine takeS (i := 9) (N := (some 44)) (v := ?_) HT_ HW_ hHeld ?_ ?_
    rotate_left
    ·rintro w' ⟨s0, s1⟩
     refine Eq.trans (load32_run (x := y) (v := (.slice Ae y.f2.length ce)) _ (p := .tmp 43) ?ho_ ?hp_ s0) ?hr_
     case ho_ => rfl
     case hp_ => rfl
     case hr_ => rfl
    refine normS (N := (some 44)) ?_
    refine takeS (i := 10) (N := (some 45)) (v := ?_) HT_ HW_ hHeld ?_ ?_
    rotate_left
    ·rintro w' ⟨s0, s1⟩
     refine Eq.trans (load32_run (x := x) (v := (.slice A3 x.f2.length c3)) _ (p := .tmp 4) ?ho_ ?hp_ (blk_cells s1)) ?hr_
     case ho_ => rfl
     case hp_ => rfl
     case hr_ => rfl
    refine normS (N := (some 45)) ?_
    refine oneS (i := 11) (N := (some 46)) HT_ (fun K hK => ?_)
    refine goesF_ Try.func42 (by kernel_rfl) rfl #[(.agg #[.int .i64 y.f0.f0, .int .i64 y.f0.f1, .int .i64 y.f1, (.slice Ae y.f2.length ce), .int .i64 y.f3, .int .i64 y.f4.f0, .int .i64 y.f4.f1, .int .i64 y.f5.f0, .int .i64 y.f5.f1, .int .i64 y.f6.f0, .int .i64 y.f6.f1, .string y.f7, .string y.f8]), (.agg #[.int .i64 x.f0.f0, .int .i64 x.f0.f1, .int .i64 x.f1, (.slice A3 x.f2.length c3), .int .i64 x.f3, .int .i64 x.f4.f0, .int .i64 x.f4.f1, .int .i64 x.f5.f0, .int .i64 x.f5.f1, .int .i64 x.f6.f0, .int .i64 x.f6.f1, .string x.f7, .string x.f8])] (by rfl) rfl (p := .tmp 40) rfl rfl argS ?_
    refine (causal_compare.calls y.f0.f0 y.f0.f1 y.f1 Ae ce y.f2 y.f3 y.f4.f0 y.f4.f1 y.f5.f0 y.f5.f1 y.f6.f0 y.f6.f1 y.f7 y.f8 x.f0.f0 x.f0.f1 x.f1 A3 c3 x.f2 x.f3 x.f4.f0 x.f4.f1 x.f5.f0 x.f5.f1 x.f6.f0 x.f6.f1 x.f7 x.f8 r _ HCE.out HLE.out HCX.out HX3.out HCMP.out).mono ?_
    rintro e w5 ⟨rfl, hb5⟩
    refine ⟨_, rfl, ?_⟩
    have hS6 : (fun w' => (∀ j u, (chL y (.slice Ae y.f2.length ce))[j]? = some u → w'.cell? ((⟨gr, m * 13, none⟩ : Addr).add j) = some u) ∧ w'.heap[gb]? = some (.cells (chA x (.slice A3 x.f2.length c3)) 32 (0, 0))) w5 := ⟨fun j u hj => (World.cell?_of_block (hb5.block _ (World.block_lt_of_cell? _ _ (hHeld.1 j u hj)))).trans (hHeld.1 j u hj), blk_below hHeld.2 hb5⟩
    have HB5 := Aside0.mk hb5
    clear hb5
    refine hK.out _ _ (hS6) (fun hHeld => ?_)
    clear hK K
    refine normS (N := (some 46)) ?_
    refine pureT (i := 12) (N := (some 47)) HT_ ?_
    refine pureT (i := 13) (N := (some 48)) HT_ ?_
    refine pureT (i := 14) (N := (some 6)) HT_ ?_
    refine pureT (i := 15) (N := (some 7)) HT_ ?_
    refine done_ (done_of HT_.out (by kernel_rfl)) ?_
    go_wp2_with (fail)
    go_ret2
    exact SearchPost.mk HCN.out _ rfl (HBW.out.trans (HB5.out.mono HBW.out.size))
   ·have b4 : decide (lo < l.length) = false := decide_eq_false hln
    clear hln
    go_wp2_with (fail)
    refine startS (n := 16) (S := (fun _ => True)) (ds := []) (trivial) (fun hHeld => ?_)
    refine with_tabW seab.tab8 seab.bits8 (fun HT_ HW_ => ?_)
    refine pureT (i := 0) (N := (some 35)) HT_ ?_
    refine pureT (i := 1) (N := (some 36)) HT_ ?_
    refine pureT (i := 2) (N := (some 37)) HT_ ?_
    refine pureT (i := 3) (N := (some 38)) HT_ ?_
    refine pureT (i := 4) (N := (some 39)) HT_ ?_
    refine pureV (i := 5) (N := (some 40)) HT_ ?_
    refine pureV (i := 6) (N := (some 41)) HT_ ?_
    refine pureV (i := 7) (N := (some 42)) HT_ ?_
    refine pureV (i := 8) (N := (some 43)) HT_ ?_
    refine pureV (i := 9) (N := (some 44)) HT_ ?_
    refine pureV (i := 10) (N := (some 45)) HT_ ?_
    refine pureV (i := 11) (N := (some 46)) HT_ ?_
    refine pureV (i := 12) (N := (some 47)) HT_ ?_
    refine pureT (i := 13) (N := (some 48)) HT_ ?_
    refine pureT (i := 14) (N := (some 6)) HT_ ?_
    refine pureT (i := 15) (N := (some 7)) HT_ ?_
    refine done_ (done_of HT_.out (by kernel_rfl)) ?_
    go_wp2_with (fail)
    go_ret2
    exact SearchPost.mk HCN.out _ rfl (below_drew (HBgb.out.trans (HBL.out.mono HBgb.out.size)))
def tka.T7 : Bool × List (List Nat × List Nat) := (true, [([], []), ([0], [0]), ([], []), ([], []), ([3], [3]), ([4], [4]), ([2, 5], [2, 5]), ([1, 6], [1, 6]), ([7, 6], [7]), ([8], [8]), ([9, 8], [8, 9]), ([10, 8, 8], [8, 10]), ([11], [11]), ([12, 11], [11, 12]), ([13, 11], [11, 13]), ([14, 11], [11, 14]), ([11], [11]), ([16, 11, 11], [11, 16]), ([15, 17, 11], [11, 15, 17]), ([18, 11], [11, 18]), ([11, 19, 8], [8, 11, 19]), ([8, 20], [8, 20])])
def tka.B7 : List Nat := [0, 1, 0, 0, 8, 24, 60, 127, 255, 511, 1023, 2047, 4095, 8191, 16383, 32767, 4095, 69631, 262143, 524287, 1048575, 2097151]
theorem tka.tab7 : rtab .any (opsOf Try.f13 7) = tka.T7 := by kernel_rfl
theorem tka.bits7 : waitsOk tka.T7.2 tka.B7 = true := by kernel_rfl
def tkb.T13 : Bool × List (List Nat × List Nat) := (true, [([], []), ([0], [0]), ([1], [1]), ([2], [2]), ([], []), ([3, 4], [3, 4]), ([5], [5]), ([6], [6]), ([6], [6]), ([7, 5, 0, 1, 2, 3, 4, 5, 6, 7], [7]), ([8, 9, 0, 1, 2, 3, 4, 5, 6, 7, 8, 9], [8])])
def tkb.B13 : List Nat := [0, 1, 3, 7, 0, 31, 63, 127, 127, 255, 1023]
theorem tkb.tab13 : rtab .any (opsOf Try.f13 13) = tkb.T13 := by kernel_rfl
theorem tkb.bits13 : waitsOk tkb.T13.2 tkb.B13 = true := by kernel_rfl
def tkc.T14 : Bool × List (List Nat × List Nat) := (true, [([], []), ([], []), ([1], [1]), ([2], [2]), ([3], [3]), ([], []), ([], []), ([6], [6]), ([7], [7]), ([4, 5, 8, 7], [4, 5, 8]), ([0, 0, 1, 2, 3, 4, 5, 6, 7, 8, 9], [0]), ([10, 0, 1, 2, 3, 4, 5, 6, 7, 8, 9], [10]), ([11, 9, 9, 0, 1, 2, 3, 4, 5, 6, 7, 8, 9], [9, 11])])
def tkc.B14 : List Nat := [0, 0, 2, 6, 14, 0, 0, 64, 192, 510, 1023, 2047, 4095]
theorem tkc.tab14 : rtab .any (opsOf Try.f13 14) = tkc.T14 := by kernel_rfl
theorem tkc.bits14 : waitsOk tkc.T14.2 tkc.B14 = true := by kernel_rfl
def tkd.T15 : Bool × List (List Nat × List Nat) := (true, [([], []), ([0], [0]), ([1], [1]), ([2], [2]), ([], []), ([4], [4]), ([3, 5], [3, 5]), ([6], [6]), ([3, 5, 5, 0, 1, 2, 3, 4, 5], [3, 5]), ([8], [8]), ([3, 9, 7, 8, 0, 1, 2, 3, 4, 5, 6, 7, 8, 9], [3, 7, 9])])
def tkd.B15 : List Nat := [0, 1, 3, 7, 0, 16, 63, 127, 63, 319, 1023]
theorem tkd.tab15 : rtab .any (opsOf Try.f13 15) = tkd.T15 := by kernel_rfl
theorem tkd.bits15 : waitsOk tkd.T15.2 tkd.B15 = true := by kernel_rfl
def ownX (l : List S32) (x : S32) : Bool := decide (keyOf x ∈ l.map keyOf)
/-- Take: what is held behind it, what comes, the error. -/
def takeF (room : Int) (l : List S32) (known : List Int) (x : S32) : List S32 × List S32 × Int :=
 if chkC known = 0 then (if checkX x = 0 then (if (withinX known x || ownX l x) = true then (l, [], 5) else if ripeC known x = true then ((relF l.length (tickC known x.f0.f1).1 [x] l).2, (relF l.length (tickC known x.f0.f1).1 [x] l).1, 0) else if room ≤ l.length then (l, [], 6) else (l.take (cntX x l) ++ x :: l.drop (cntX x l), [], 0)) else (l, [], checkX x)) else (l, [], chkC known)
def TakeB (w : World) (base : Nat) (P : Nat → Prop) (g : Nat) (room : Int) (r : List S32 × List S32 × Int) (e : Ending) (w' : World) : Prop :=
 ∃ (P' O : Nat → Prop) (v' : Value), e = .returned (.tuple #[v', .int .i64 r.2.2]) ∧ BufI w' base P' g room r.1 ∧ Kd.S k32 32 w' base O v' r.2.1 ∧ (∀ k, P' k → P k ∨ w.heap.size ≤ k) ∧ (∀ k, O k → ¬ P' k) ∧ (∀ k, O k → P k ∨ w.heap.size ≤ k) ∧ Kept w w' P
theorem TakeB.err {w w' : World} {base : Nat} {P : Nat → Prop} {g : Nat} {room : Int} {l : List S32} {c : Int} (h : BufI w base P g room l) (hb : Below w.heap.size w w') : TakeB w base P g room (l, [], c) (.returned (.tuple #[.slice none 0 0, .int .i64 c])) w' :=
 ⟨P, fun _ => False, .slice none 0 0, rfl, h.below hb, Kd.S_nil _ _ _ _ _, fun _ hk => .inl hk, fun _ hk => hk.elim, fun _ hk => hk.elim, Kept.of_below hb _⟩
set_option maxHeartbeats 8000000 in
set_option maxRecDepth 100000 in
theorem take_chk {w : World} {base : Nat} {P : Nat → Prop} {g : Nat} {room : Int} {l : List S32} (hB : BufI w base P g room l) (A0 : Option Addr) (c0 : Nat) (known : List Int) (hk : Kd.C (Kd.int .i64) w A0 known.length known) (hkc : known.length ≤ c0)
  (x : S32) (A3 : Option Addr) (c3 : Nat) (hx : Kd.C (Kd.int .i64) w A3 x.f2.length x.f2) (hx3 : x.f2.length ≤ c3) (hc : chkC known ≠ 0) (p : Option Addr) :
  Calls Try.prog 13 #[.pointer p, .slice A0 known.length c0, (.agg #[.int .i64 x.f0.f0, .int .i64 x.f0.f1, .int .i64 x.f1, (.slice A3 x.f2.length c3), .int .i64 x.f3, .int .i64 x.f4.f0, .int .i64 x.f4.f1, .int .i64 x.f5.f0, .int .i64 x.f5.f1, .int .i64 x.f6.f0, .int .i64 x.f6.f1, .string x.f7, .string x.f8])] w (TakeB w base P g room (l, [], chkC known)) := by
 have HBUF := Aside0.mk hB
 have HK := Aside0.mk hk
 have HKC := Aside0.mk hkc
 have HCK := Aside0.mk (clock_Check_is known 66 (by decide))
 clear hB hk hkc hx hx3
 generalize chkC known = cc at *
 have e1 : (cc != 0) = true := by rw [bne_iff_ne]; exact hc
 clear hc
 go_enter Try.func13, Try.ntmps13
 go_wp2_with (first | ((with_reducible refine gate_dst (N := 5) rfl ?_); refine boxE (N := 5) (cs := #[.int .i64 x.f0.f0, .int .i64 x.f0.f1, .int .i64 x.f1, (.slice A3 x.f2.length c3), .int .i64 x.f3, .int .i64 x.f4.f0, .int .i64 x.f4.f1, .int .i64 x.f5.f0, .int .i64 x.f5.f1, .int .i64 x.f6.f0, .int .i64 x.f6.f1, .string x.f7, .string x.f8]) (t := 32) ?_; intro gb hr_ w0 hbox hb; have HXgb := Aside0.mk hbox; have HBgb := Aside0.mk hb; have HNgb := Aside0.mk (Nat.le_of_eq hr_.symm); clear hbox hb hr_) | (go_at_call 33; (with_reducible refine (clock_Check.calls 66 A0 c0 known _ _ (Kd.C_below HK.out HBgb.out) HKC.out HCK.out).mono ?_); rintro e w1 ⟨rfl, ⟨nd, hnd⟩⟩; have HB1 := Aside0.mk (show Below w.heap.size w w1 by rw [hnd]; exact pw_below_drewN HBgb.out nd); have HX1 := Aside0.mk (show w1.heap[gb]? = some (.cells (chA x (.slice A3 x.f2.length c3)) 32 (0, 0)) by rw [hnd]; exact HXgb.out); clear hnd nd))
 go_ret2
 exact TakeB.err HBUF.out HB1.out
set_option maxHeartbeats 8000000 in
set_option maxRecDepth 100000 in
theorem take_bad {w : World} {base : Nat} {P : Nat → Prop} {g : Nat} {room : Int} {l : List S32} (hB : BufI w base P g room l) (A0 : Option Addr) (c0 : Nat) (known : List Int) (hk : Kd.C (Kd.int .i64) w A0 known.length known) (hkc : known.length ≤ c0)
  (x : S32) (A3 : Option Addr) (c3 : Nat) (hx : Kd.C (Kd.int .i64) w A3 x.f2.length x.f2) (hx3 : x.f2.length ≤ c3) (hs : x.f7.size < 4611686018427387904) (hc : chkC known = 0) (hc2 : checkX x ≠ 0) (p : Option Addr) :
  Calls Try.prog 13 #[.pointer p, .slice A0 known.length c0, (.agg #[.int .i64 x.f0.f0, .int .i64 x.f0.f1, .int .i64 x.f1, (.slice A3 x.f2.length c3), .int .i64 x.f3, .int .i64 x.f4.f0, .int .i64 x.f4.f1, .int .i64 x.f5.f0, .int .i64 x.f5.f1, .int .i64 x.f6.f0, .int .i64 x.f6.f1, .string x.f7, .string x.f8])] w (TakeB w base P g room (l, [], checkX x)) := by
 have HBUF := Aside0.mk hB
 have HK := Aside0.mk hk
 have HKC := Aside0.mk hkc
 have HC3 := Aside0.mk hx
 have HL3 := Aside0.mk hx3
 have HCK := Aside0.mk (clock_Check_is known 66 (by decide))
 rw [hc] at HCK
 have HCE := Aside0.mk (change_Check_is (x.f7.size + 200) x.f0.f0 x.f0.f1 x.f1 x.f2 x.f3 x.f4.f0 x.f4.f1 x.f5.f0 x.f5.f1 x.f6.f0 x.f6.f1 x.f7 x.f8 hs (by omega) (by omega))
 rw [show checkC x.f0.f0 x.f0.f1 x.f1 x.f2 x.f3 x.f4.f0 x.f4.f1 x.f5.f0 x.f5.f1 x.f6.f0 x.f6.f1 x.f7 x.f8 = checkX x from rfl] at HCE
 clear hB hk hkc hx hx3 hs hc
 generalize checkX x = cc at *
 have e1 : (cc != 0) = true := by rw [bne_iff_ne]; exact hc2
 clear hc2
 go_enter Try.func13, Try.ntmps13
 go_wp2_with (first | ((with_reducible refine gate_dst (N := 5) rfl ?_); refine boxE (N := 5) (cs := #[.int .i64 x.f0.f0, .int .i64 x.f0.f1, .int .i64 x.f1, (.slice A3 x.f2.length c3), .int .i64 x.f3, .int .i64 x.f4.f0, .int .i64 x.f4.f1, .int .i64 x.f5.f0, .int .i64 x.f5.f1, .int .i64 x.f6.f0, .int .i64 x.f6.f1, .string x.f7, .string x.f8]) (t := 32) ?_; intro gb hr_ w0 hbox hb; have HXgb := Aside0.mk hbox; have HBgb := Aside0.mk hb; have HNgb := Aside0.mk (Nat.le_of_eq hr_.symm); clear hbox hb hr_) | (go_at_call 33; (with_reducible refine (clock_Check.calls 66 A0 c0 known _ _ (Kd.C_below HK.out HBgb.out) HKC.out HCK.out).mono ?_); rintro e w1 ⟨rfl, ⟨nd, hnd⟩⟩; have HB1 := Aside0.mk (show Below w.heap.size w w1 by rw [hnd]; exact pw_below_drewN HBgb.out nd); have HX1 := Aside0.mk (show w1.heap[gb]? = some (.cells (chA x (.slice A3 x.f2.length c3)) 32 (0, 0)) by rw [hnd]; exact HXgb.out); clear hnd nd) | ((with_reducible refine gate_dst (N := 17) rfl ?_); refine load32_ev rfl (N := 17) rfl x (.slice A3 x.f2.length c3) (p := .tmp 5) rfl (ad := ⟨gb, 0, none⟩) rfl (blk_cells HX1.out) ?_) | (go_at_call 34; (with_reducible refine (change_Check.calls (x.f7.size + 200) x.f0.f0 x.f0.f1 x.f1 A3 c3 x.f2 x.f3 x.f4.f0 x.f4.f1 x.f5.f0 x.f5.f1 x.f6.f0 x.f6.f1 x.f7 x.f8 _ _ (Kd.C_below HC3.out HB1.out) HL3.out HCE.out).mono ?_); rintro e w2 ⟨rfl, hb2⟩; have HB2 := Aside0.mk (HB1.out.trans (hb2.mono HB1.out.size)); have HX2 := Aside0.mk (blk_below HX1.out hb2); clear hb2))
 go_ret2
 exact TakeB.err HBUF.out HB2.out
set_option maxHeartbeats 8000000 in
set_option maxRecDepth 100000 in
theorem take_within {w : World} {base : Nat} {P : Nat → Prop} {g : Nat} {room : Int} {l : List S32} (hB : BufI w base P g room l) (A0 : Option Addr) (c0 : Nat) (known : List Int) (hk : Kd.C (Kd.int .i64) w A0 known.length known) (hkc : known.length ≤ c0)
  (x : S32) (A3 : Option Addr) (c3 : Nat) (hx : Kd.C (Kd.int .i64) w A3 x.f2.length x.f2) (hx3 : x.f2.length ≤ c3) (hs : x.f7.size < 4611686018427387904) (hc : chkC known = 0) (hc2 : checkX x = 0) (hw : withinX known x = true) :
  Calls Try.prog 13 #[.pointer (some ⟨g, 0, none⟩), .slice A0 known.length c0, (.agg #[.int .i64 x.f0.f0, .int .i64 x.f0.f1, .int .i64 x.f1, (.slice A3 x.f2.length c3), .int .i64 x.f3, .int .i64 x.f4.f0, .int .i64 x.f4.f1, .int .i64 x.f5.f0, .int .i64 x.f5.f1, .int .i64 x.f6.f0, .int .i64 x.f6.f1, .string x.f7, .string x.f8])] w (TakeB w base P g room (l, [], 5)) := by
 have HBUF := Aside0.mk hB
 have HK := Aside0.mk hk
 have HKC := Aside0.mk hkc
 have HC3 := Aside0.mk hx
 have HL3 := Aside0.mk hx3
 have HCK := Aside0.mk (clock_Check_is known 66 (by decide))
 rw [hc] at HCK
 have HCE := Aside0.mk (change_Check_is (x.f7.size + 200) x.f0.f0 x.f0.f1 x.f1 x.f2 x.f3 x.f4.f0 x.f4.f1 x.f5.f0 x.f5.f1 x.f6.f0 x.f6.f1 x.f7 x.f8 hs (by omega) (by omega))
 rw [show checkC x.f0.f0 x.f0.f1 x.f1 x.f2 x.f3 x.f4.f0 x.f4.f1 x.f5.f0 x.f5.f1 x.f6.f0 x.f6.f1 x.f7 x.f8 = checkX x from rfl, hc2] at HCE
 have HX64 := Aside0.mk (check_ok hc2)
 have HCH := Aside0.mk hc
 obtain ⟨at_, hat_⟩ : ∃ a, atC known x.f0.f1 = a := ⟨_, rfl⟩
 have HAT := Aside0.mk (clock_At_is known x.f0.f1)
 rw [hat_] at HAT
 have hwx : withinX known x = decide (x.f1 ≤ at_) := by unfold withinX; rw [hat_]
 clear hat_

 rw [hw] at hwx
 have d1 : decide (x.f1 ≤ at_) = true := hwx.symm
 clear hB hk hkc hx hx3 hs hc hc2 hw hwx
 obtain ⟨mb, es, cc, A, ch, hO⟩ := HBUF.out.opened
 have HO := Aside0.mk hO
 clear hO

 go_enter Try.func13, Try.ntmps13
 go_wp2_with (first | ((with_reducible refine gate_dst (N := 5) rfl ?_); refine boxE (N := 5) (cs := #[.int .i64 x.f0.f0, .int .i64 x.f0.f1, .int .i64 x.f1, (.slice A3 x.f2.length c3), .int .i64 x.f3, .int .i64 x.f4.f0, .int .i64 x.f4.f1, .int .i64 x.f5.f0, .int .i64 x.f5.f1, .int .i64 x.f6.f0, .int .i64 x.f6.f1, .string x.f7, .string x.f8]) (t := 32) ?_; intro gb hr_ w0 hbox hb; have HXgb := Aside0.mk hbox; have HBgb := Aside0.mk hb; have HNgb := Aside0.mk (Nat.le_of_eq hr_.symm); clear hbox hb hr_) | (go_at_call 33; (with_reducible refine (clock_Check.calls 66 A0 c0 known _ _ (Kd.C_below HK.out HBgb.out) HKC.out HCK.out).mono ?_); rintro e w1 ⟨rfl, ⟨nd, hnd⟩⟩; have HB1 := Aside0.mk (show Below w.heap.size w w1 by rw [hnd]; exact pw_below_drewN HBgb.out nd); have HX1 := Aside0.mk (show w1.heap[gb]? = some (.cells (chA x (.slice A3 x.f2.length c3)) 32 (0, 0)) by rw [hnd]; exact HXgb.out); clear hnd nd) | ((with_reducible refine gate_dst (N := 17) rfl ?_); refine load32_ev rfl (N := 17) rfl x (.slice A3 x.f2.length c3) (p := .tmp 5) rfl (ad := ⟨gb, 0, none⟩) rfl (blk_cells HX1.out) ?_) | (go_at_call 34; (with_reducible refine (change_Check.calls (x.f7.size + 200) x.f0.f0 x.f0.f1 x.f1 A3 c3 x.f2 x.f3 x.f4.f0 x.f4.f1 x.f5.f0 x.f5.f1 x.f6.f0 x.f6.f1 x.f7 x.f8 _ _ (Kd.C_below HC3.out HB1.out) HL3.out HCE.out).mono ?_); rintro e w2 ⟨rfl, hb2⟩; have HB2 := Aside0.mk (HB1.out.trans (hb2.mono HB1.out.size)); have HX2 := Aside0.mk (blk_below HX1.out hb2); clear hb2))

 refine startS (n := 22) (S := (fun w' => w'.heap[gb]? = some (.cells (chA x (.slice A3 x.f2.length c3)) 32 (0, 0)) ∧ w'.cell? ⟨g, 2, none⟩ = some (.map (some mb)) ∧ w'.heap[mb]? = some (.map (es.map entE).toArray cc))) (ds := []) (⟨HX2.out, (blk_cell (blk_below HO.out.blk HB2.out) 2).trans rfl, blk_below HO.out.map (below_drew HB2.out)⟩) (fun hHeld => ?_)
 refine with_tabW tka.tab7 tka.bits7 (fun HT_ HW_ => ?_)
 refine pureT (i := 0) (N := (some 22)) HT_ ?_
 refine pureT (i := 2) (N := (some 24)) HT_ ?_
 refine pureT (i := 3) (N := (some 25)) HT_ ?_
 refine pureT (i := 4) (N := (some 26)) HT_ ?_
 refine takeS (i := 1) (N := (some 23)) (v := ?_) HT_ HW_ hHeld ?_ ?_
 rotate_left
 ·rintro w' ⟨s0, s1, s2⟩; have f1 : w'.cell? ⟨gb, 2, none⟩ = some (.int .i64 x.f1) := (blk_cell s0 2).trans rfl; have f2 : w'.cell? ⟨gb, 1, none⟩ = some (.int .i64 x.f0.f1) := (blk_cell s0 1).trans rfl
  go_simp
  with_reducible rfl
 refine normS (N := (some 23)) ?_
 refine takeS (i := 5) (N := (some 27)) (v := ?_) HT_ HW_ hHeld ?_ ?_
 rotate_left
 ·rintro w' ⟨s0, s1, s2⟩; have f1 : w'.cell? ⟨gb, 2, none⟩ = some (.int .i64 x.f1) := (blk_cell s0 2).trans rfl; have f2 : w'.cell? ⟨gb, 1, none⟩ = some (.int .i64 x.f0.f1) := (blk_cell s0 1).trans rfl
  go_simp
  with_reducible rfl
 refine normS (N := (some 27)) ?_
 refine oneS (i := 6) (N := (some 28)) HT_ (fun K hK => ?_)
 refine goes_ Try.func35 (by kernel_rfl) rfl #[.slice A0 known.length c0, .int .i64 x.f0.f1] (by rfl) rfl rfl argS ?_
 refine (clock_At.calls A0 c0 known x.f0.f1 _ _ (Kd.C_drew (Kd.C_below HK.out HB2.out)) HKC.out HAT.out).mono ?_
 rintro e w3 ⟨rfl, ⟨nd2, hnd2⟩⟩
 refine ⟨_, rfl, ?_⟩
 have HB3 := Aside0.mk (show Below w.heap.size w w3 by rw [hnd2]; exact pw_below_drewN (below_drew HB2.out) nd2)
 have hS3 : (fun w' => w'.heap[gb]? = some (.cells (chA x (.slice A3 x.f2.length c3)) 32 (0, 0)) ∧ w'.cell? ⟨g, 2, none⟩ = some (.map (some mb)) ∧ w'.heap[mb]? = some (.map (es.map entE).toArray cc)) w3 := by rw [hnd2]; exact ⟨hHeld.1, hHeld.2.1, hHeld.2.2⟩
 clear hnd2
 refine hK.out _ _ (hS3) (fun hHeld => ?_)
 clear hK K
 refine normS (N := (some 28)) ?_
 refine pureT (i := 7) (N := (some 29)) HT_ ?_
 refine pureT (i := 8) (N := (some 30)) HT_ ?_
 refine pureV (i := 9) (N := (some 31)) HT_ ?_
 refine pureV (i := 10) (N := (some 32)) HT_ ?_
 refine pureV (i := 11) (N := (some 33)) HT_ ?_
 refine pureV (i := 12) (N := (some 34)) HT_ ?_
 refine pureV (i := 13) (N := (some 35)) HT_ ?_
 refine pureV (i := 14) (N := (some 36)) HT_ ?_
 refine pureV (i := 15) (N := (some 37)) HT_ ?_
 refine pureV (i := 16) (N := (some 38)) HT_ ?_
 refine pureV (i := 17) (N := (some 39)) HT_ ?_
 refine pureV (i := 18) (N := (some 40)) HT_ ?_
 refine pureV (i := 19) (N := (some 41)) HT_ ?_
 refine pureV (i := 20) (N := (some 42)) HT_ ?_
 refine pureT (i := 21) (N := (some 43)) HT_ ?_
 refine done_ (done_of HT_.out (by kernel_rfl)) ?_
 go_wp2_with (fail)
 go_ret2
 exact TakeB.err HBUF.out HB3.out
set_option maxHeartbeats 8000000 in
set_option maxRecDepth 100000 in
theorem take_own {w : World} {base : Nat} {P : Nat → Prop} {g : Nat} {room : Int} {l : List S32} (hB : BufI w base P g room l) (A0 : Option Addr) (c0 : Nat) (known : List Int) (hk : Kd.C (Kd.int .i64) w A0 known.length known) (hkc : known.length ≤ c0)
  (x : S32) (A3 : Option Addr) (c3 : Nat) (hx : Kd.C (Kd.int .i64) w A3 x.f2.length x.f2) (hx3 : x.f2.length ≤ c3) (hs : x.f7.size < 4611686018427387904) (hc : chkC known = 0) (hc2 : checkX x = 0) (hw : withinX known x = false) (ho : ownX l x = true) :
  Calls Try.prog 13 #[.pointer (some ⟨g, 0, none⟩), .slice A0 known.length c0, (.agg #[.int .i64 x.f0.f0, .int .i64 x.f0.f1, .int .i64 x.f1, (.slice A3 x.f2.length c3), .int .i64 x.f3, .int .i64 x.f4.f0, .int .i64 x.f4.f1, .int .i64 x.f5.f0, .int .i64 x.f5.f1, .int .i64 x.f6.f0, .int .i64 x.f6.f1, .string x.f7, .string x.f8])] w (TakeB w base P g room (l, [], 5)) := by
 have HBUF := Aside0.mk hB
 have HK := Aside0.mk hk
 have HKC := Aside0.mk hkc
 have HC3 := Aside0.mk hx
 have HL3 := Aside0.mk hx3
 have HCK := Aside0.mk (clock_Check_is known 66 (by decide))
 rw [hc] at HCK
 have HCE := Aside0.mk (change_Check_is (x.f7.size + 200) x.f0.f0 x.f0.f1 x.f1 x.f2 x.f3 x.f4.f0 x.f4.f1 x.f5.f0 x.f5.f1 x.f6.f0 x.f6.f1 x.f7 x.f8 hs (by omega) (by omega))
 rw [show checkC x.f0.f0 x.f0.f1 x.f1 x.f2 x.f3 x.f4.f0 x.f4.f1 x.f5.f0 x.f5.f1 x.f6.f0 x.f6.f1 x.f7 x.f8 = checkX x from rfl, hc2] at HCE
 have HX64 := Aside0.mk (check_ok hc2)
 have HCH := Aside0.mk hc
 obtain ⟨at_, hat_⟩ : ∃ a, atC known x.f0.f1 = a := ⟨_, rfl⟩
 have HAT := Aside0.mk (clock_At_is known x.f0.f1)
 rw [hat_] at HAT
 have hwx : withinX known x = decide (x.f1 ≤ at_) := by unfold withinX; rw [hat_]
 clear hat_

 rw [hw] at hwx
 have d1 : decide (x.f1 ≤ at_) = false := hwx.symm
 obtain ⟨mb, es, cc, A, ch, hO⟩ := HBUF.out.opened
 have HO := Aside0.mk hO
 clear hO

 have hown : valP es (keyOf x) = .int .i64 1 := by
  rw [HO.out.ok.val, if_pos (of_decide_eq_true ho)]
 have HOWN := Aside0.mk hown
 clear hB hk hkc hx hx3 hs hc hc2 hw hwx ho hown
 go_enter Try.func13, Try.ntmps13
 go_wp2_with (first | ((with_reducible refine gate_dst (N := 5) rfl ?_); refine boxE (N := 5) (cs := #[.int .i64 x.f0.f0, .int .i64 x.f0.f1, .int .i64 x.f1, (.slice A3 x.f2.length c3), .int .i64 x.f3, .int .i64 x.f4.f0, .int .i64 x.f4.f1, .int .i64 x.f5.f0, .int .i64 x.f5.f1, .int .i64 x.f6.f0, .int .i64 x.f6.f1, .string x.f7, .string x.f8]) (t := 32) ?_; intro gb hr_ w0 hbox hb; have HXgb := Aside0.mk hbox; have HBgb := Aside0.mk hb; have HNgb := Aside0.mk (Nat.le_of_eq hr_.symm); clear hbox hb hr_) | (go_at_call 33; (with_reducible refine (clock_Check.calls 66 A0 c0 known _ _ (Kd.C_below HK.out HBgb.out) HKC.out HCK.out).mono ?_); rintro e w1 ⟨rfl, ⟨nd, hnd⟩⟩; have HB1 := Aside0.mk (show Below w.heap.size w w1 by rw [hnd]; exact pw_below_drewN HBgb.out nd); have HX1 := Aside0.mk (show w1.heap[gb]? = some (.cells (chA x (.slice A3 x.f2.length c3)) 32 (0, 0)) by rw [hnd]; exact HXgb.out); clear hnd nd) | ((with_reducible refine gate_dst (N := 17) rfl ?_); refine load32_ev rfl (N := 17) rfl x (.slice A3 x.f2.length c3) (p := .tmp 5) rfl (ad := ⟨gb, 0, none⟩) rfl (blk_cells HX1.out) ?_) | (go_at_call 34; (with_reducible refine (change_Check.calls (x.f7.size + 200) x.f0.f0 x.f0.f1 x.f1 A3 c3 x.f2 x.f3 x.f4.f0 x.f4.f1 x.f5.f0 x.f5.f1 x.f6.f0 x.f6.f1 x.f7 x.f8 _ _ (Kd.C_below HC3.out HB1.out) HL3.out HCE.out).mono ?_); rintro e w2 ⟨rfl, hb2⟩; have HB2 := Aside0.mk (HB1.out.trans (hb2.mono HB1.out.size)); have HX2 := Aside0.mk (blk_below HX1.out hb2); clear hb2))

 refine startS (n := 22) (S := (fun w' => w'.heap[gb]? = some (.cells (chA x (.slice A3 x.f2.length c3)) 32 (0, 0)) ∧ w'.cell? ⟨g, 2, none⟩ = some (.map (some mb)) ∧ w'.heap[mb]? = some (.map (es.map entE).toArray cc))) (ds := []) (⟨HX2.out, (blk_cell (blk_below HO.out.blk HB2.out) 2).trans rfl, blk_below HO.out.map (below_drew HB2.out)⟩) (fun hHeld => ?_)
 refine with_tabW tka.tab7 tka.bits7 (fun HT_ HW_ => ?_)
 refine pureT (i := 0) (N := (some 22)) HT_ ?_
 refine pureT (i := 2) (N := (some 24)) HT_ ?_
 refine pureT (i := 3) (N := (some 25)) HT_ ?_
 refine pureT (i := 4) (N := (some 26)) HT_ ?_
 refine takeS (i := 1) (N := (some 23)) (v := ?_) HT_ HW_ hHeld ?_ ?_
 rotate_left
 ·rintro w' ⟨s0, s1, s2⟩; have f1 : w'.cell? ⟨gb, 2, none⟩ = some (.int .i64 x.f1) := (blk_cell s0 2).trans rfl; have f2 : w'.cell? ⟨gb, 1, none⟩ = some (.int .i64 x.f0.f1) := (blk_cell s0 1).trans rfl
  go_simp
  with_reducible rfl
 refine normS (N := (some 23)) ?_
 refine takeS (i := 5) (N := (some 27)) (v := ?_) HT_ HW_ hHeld ?_ ?_
 rotate_left
 ·rintro w' ⟨s0, s1, s2⟩; have f1 : w'.cell? ⟨gb, 2, none⟩ = some (.int .i64 x.f1) := (blk_cell s0 2).trans rfl; have f2 : w'.cell? ⟨gb, 1, none⟩ = some (.int .i64 x.f0.f1) := (blk_cell s0 1).trans rfl
  go_simp
  with_reducible rfl
 refine normS (N := (some 27)) ?_
 refine oneS (i := 6) (N := (some 28)) HT_ (fun K hK => ?_)
 refine goes_ Try.func35 (by kernel_rfl) rfl #[.slice A0 known.length c0, .int .i64 x.f0.f1] (by rfl) rfl rfl argS ?_
 refine (clock_At.calls A0 c0 known x.f0.f1 _ _ (Kd.C_drew (Kd.C_below HK.out HB2.out)) HKC.out HAT.out).mono ?_
 rintro e w3 ⟨rfl, ⟨nd2, hnd2⟩⟩
 refine ⟨_, rfl, ?_⟩
 have HB3 := Aside0.mk (show Below w.heap.size w w3 by rw [hnd2]; exact pw_below_drewN (below_drew HB2.out) nd2)
 have hS3 : (fun w' => w'.heap[gb]? = some (.cells (chA x (.slice A3 x.f2.length c3)) 32 (0, 0)) ∧ w'.cell? ⟨g, 2, none⟩ = some (.map (some mb)) ∧ w'.heap[mb]? = some (.map (es.map entE).toArray cc)) w3 := by rw [hnd2]; exact ⟨hHeld.1, hHeld.2.1, hHeld.2.2⟩
 clear hnd2
 refine hK.out _ _ (hS3) (fun hHeld => ?_)
 clear hK K
 refine normS (N := (some 28)) ?_
 refine pureT (i := 7) (N := (some 29)) HT_ ?_
 refine pureT (i := 8) (N := (some 30)) HT_ ?_
 refine pureT (i := 9) (N := (some 31)) HT_ ?_
 refine pureT (i := 10) (N := (some 32)) HT_ ?_
 refine pureT (i := 11) (N := (some 33)) HT_ ?_
 refine pureT (i := 12) (N := (some 34)) HT_ ?_
 refine pureT (i := 13) (N := (some 35)) HT_ ?_
 refine pureT (i := 14) (N := (some 36)) HT_ ?_
 refine takeS (i := 15) (N := (some 37)) (v := ?_) HT_ HW_ hHeld ?_ ?_
 rotate_left
 ·rintro w' ⟨s0, s1, s2⟩; have f1 : w'.cell? ⟨gb, 2, none⟩ = some (.int .i64 x.f1) := (blk_cell s0 2).trans rfl; have f2 : w'.cell? ⟨gb, 1, none⟩ = some (.int .i64 x.f0.f1) := (blk_cell s0 1).trans rfl
  go_simp
  with_reducible rfl
 refine normS (N := (some 37)) ?_
 refine takeS (i := 16) (N := (some 38)) (v := ?_) HT_ HW_ hHeld ?_ ?_
 rotate_left
 ·rintro w' ⟨s0, s1, s2⟩
  refine Eq.trans (load32_run (x := x) (v := (.slice A3 x.f2.length c3)) _ (p := .tmp 5) ?ho_ ?hp_ (blk_cells s0)) ?hr_
  case ho_ => rfl
  case hp_ => rfl
  case hr_ => rfl
 refine normS (N := (some 38)) ?_
 refine oneS (i := 17) (N := (some 39)) HT_ (fun K hK => ?_)
 refine goes_ Try.func36 (by kernel_rfl) rfl #[(.agg #[.int .i64 x.f0.f0, .int .i64 x.f0.f1, .int .i64 x.f1, (.slice A3 x.f2.length c3), .int .i64 x.f3, .int .i64 x.f4.f0, .int .i64 x.f4.f1, .int .i64 x.f5.f0, .int .i64 x.f5.f1, .int .i64 x.f6.f0, .int .i64 x.f6.f1, .string x.f7, .string x.f8])] (by rfl) rfl rfl argS ?_
 refine (causal_of.calls x.f0.f0 x.f0.f1 x.f1 A3 c3 x.f2 x.f3 x.f4.f0 x.f4.f1 x.f5.f0 x.f5.f1 x.f6.f0 x.f6.f1 x.f7 x.f8 x.f0.f1 x.f1 _ (Kd.C_below HC3.out HB3.out) HL3.out rfl).mono ?_
 rintro e w4 ⟨rfl, hb4⟩
 refine ⟨_, rfl, ?_⟩
 have hS4 : (fun w' => w'.heap[gb]? = some (.cells (chA x (.slice A3 x.f2.length c3)) 32 (0, 0)) ∧ w'.cell? ⟨g, 2, none⟩ = some (.map (some mb)) ∧ w'.heap[mb]? = some (.map (es.map entE).toArray cc)) w4 := ⟨blk_below hHeld.1 hb4, (hb4.cell (World.block_lt_of_cell? _ _ hHeld.2.1)).trans hHeld.2.1, blk_below hHeld.2.2 hb4⟩
 have HB4 := Aside0.mk (HB3.out.trans (hb4.mono HB3.out.size))
 clear hb4
 refine hK.out _ _ (hS4) (fun hHeld => ?_)
 clear hK K
 refine normS (N := (some 39)) ?_
 refine takeS (i := 18) (N := (some 40)) (v := ?_) HT_ HW_ hHeld ?_ ?_
 rotate_left
 ·rintro w' ⟨s0, s1, s2⟩
  have hl_ : (Instr.lookup 69 (.map (some mb)) (.agg #[.int .i64 x.f0.f1, .int .i64 x.f1]) false).run Try.prog w' = .ok (.int .i64 1) w' := by
   have h_ := look_run (show MapE w' mb es cc from s2) (keyOf x)
   rw [HOWN.out] at h_
   exact h_
  go_simp
  rfl
 refine normS (N := (some 40)) ?_
 refine pureT (i := 19) (N := (some 41)) HT_ ?_
 refine pureT (i := 20) (N := (some 42)) HT_ ?_
 refine pureT (i := 21) (N := (some 43)) HT_ ?_
 refine done_ (done_of HT_.out (by kernel_rfl)) ?_
 go_wp2_with (fail)
 go_ret2
 exact TakeB.err HBUF.out HB4.out
set_option maxHeartbeats 8000000 in
set_option maxRecDepth 100000 in
theorem take_ripe {w : World} {base : Nat} {P : Nat → Prop} {g : Nat} {room : Int} {l : List S32} (hB : BufI w base P g room l) (A0 : Option Addr) (c0 : Nat) (known : List Int) (hk : Kd.C (Kd.int .i64) w A0 known.length known) (hkc : known.length ≤ c0)
  (x : S32) (A3 : Option Addr) (c3 : Nat) (hx : Kd.C (Kd.int .i64) w A3 x.f2.length x.f2) (hx3 : x.f2.length ≤ c3) (hs : x.f7.size < 4611686018427387904) (hc : chkC known = 0) (hc2 : checkX x = 0) (hw : withinX known x = false) (ho : ownX l x = false) (hr : ripeC known x = true) (hn : l.length < 1000) (hl64 : ∀ y ∈ l, y.f2.length ≤ 64) :
  Calls Try.prog 13 #[.pointer (some ⟨g, 0, none⟩), .slice A0 known.length c0, (.agg #[.int .i64 x.f0.f0, .int .i64 x.f0.f1, .int .i64 x.f1, (.slice A3 x.f2.length c3), .int .i64 x.f3, .int .i64 x.f4.f0, .int .i64 x.f4.f1, .int .i64 x.f5.f0, .int .i64 x.f5.f1, .int .i64 x.f6.f0, .int .i64 x.f6.f1, .string x.f7, .string x.f8])] w (TakeB w base P g room ((relF l.length (tickC known x.f0.f1).1 [x] l).2, (relF l.length (tickC known x.f0.f1).1 [x] l).1, 0)) := by
 have HBUF := Aside0.mk hB
 have HK := Aside0.mk hk
 have HKC := Aside0.mk hkc
 have HC3 := Aside0.mk hx
 have HL3 := Aside0.mk hx3
 have HCK := Aside0.mk (clock_Check_is known 66 (by decide))
 rw [hc] at HCK
 have HCE := Aside0.mk (change_Check_is (x.f7.size + 200) x.f0.f0 x.f0.f1 x.f1 x.f2 x.f3 x.f4.f0 x.f4.f1 x.f5.f0 x.f5.f1 x.f6.f0 x.f6.f1 x.f7 x.f8 hs (by omega) (by omega))
 rw [show checkC x.f0.f0 x.f0.f1 x.f1 x.f2 x.f3 x.f4.f0 x.f4.f1 x.f5.f0 x.f5.f1 x.f6.f0 x.f6.f1 x.f7 x.f8 = checkX x from rfl, hc2] at HCE
 have HX64 := Aside0.mk (check_ok hc2)
 have HCH := Aside0.mk hc
 obtain ⟨at_, hat_⟩ : ∃ a, atC known x.f0.f1 = a := ⟨_, rfl⟩
 have HAT := Aside0.mk (clock_At_is known x.f0.f1)
 rw [hat_] at HAT
 have hwx : withinX known x = decide (x.f1 ≤ at_) := by unfold withinX; rw [hat_]
 clear hat_

 rw [hw] at hwx
 have d1 : decide (x.f1 ≤ at_) = false := hwx.symm
 obtain ⟨mb, es, cc, A, ch, hO⟩ := HBUF.out.opened
 have HO := Aside0.mk hO
 clear hO

 have hown : valP es (keyOf x) = .int .i64 0 := by
  rw [HO.out.ok.val, if_neg (of_decide_eq_false ho)]
 have HOWN := Aside0.mk hown
 have HRD := Aside0.mk (ready_is (known := known) (x := x) hc (check_ok hc2).2.2.2.2.2 71 (by decide))

 rw [hr] at HRD
 have HN := Aside0.mk hn
 have H64 := Aside0.mk hl64
 have HCP := Aside0.mk (copy_is x (check_ok hc2).2.2.2.2.2)
 clear hB hk hkc hx hx3 hs hc hc2 hw hwx ho hown hr hn hl64
 go_enter Try.func13, Try.ntmps13
 go_wp2_with (first | ((with_reducible refine gate_dst (N := 5) rfl ?_); refine boxE (N := 5) (cs := #[.int .i64 x.f0.f0, .int .i64 x.f0.f1, .int .i64 x.f1, (.slice A3 x.f2.length c3), .int .i64 x.f3, .int .i64 x.f4.f0, .int .i64 x.f4.f1, .int .i64 x.f5.f0, .int .i64 x.f5.f1, .int .i64 x.f6.f0, .int .i64 x.f6.f1, .string x.f7, .string x.f8]) (t := 32) ?_; intro gb hr_ w0 hbox hb; have HXgb := Aside0.mk hbox; have HBgb := Aside0.mk hb; have HNgb := Aside0.mk (Nat.le_of_eq hr_.symm); clear hbox hb hr_) | (go_at_call 33; (with_reducible refine (clock_Check.calls 66 A0 c0 known _ _ (Kd.C_below HK.out HBgb.out) HKC.out HCK.out).mono ?_); rintro e w1 ⟨rfl, ⟨nd, hnd⟩⟩; have HB1 := Aside0.mk (show Below w.heap.size w w1 by rw [hnd]; exact pw_below_drewN HBgb.out nd); have HX1 := Aside0.mk (show w1.heap[gb]? = some (.cells (chA x (.slice A3 x.f2.length c3)) 32 (0, 0)) by rw [hnd]; exact HXgb.out); clear hnd nd) | ((with_reducible refine gate_dst (N := 17) rfl ?_); refine load32_ev rfl (N := 17) rfl x (.slice A3 x.f2.length c3) (p := .tmp 5) rfl (ad := ⟨gb, 0, none⟩) rfl (blk_cells HX1.out) ?_) | (go_at_call 34; (with_reducible refine (change_Check.calls (x.f7.size + 200) x.f0.f0 x.f0.f1 x.f1 A3 c3 x.f2 x.f3 x.f4.f0 x.f4.f1 x.f5.f0 x.f5.f1 x.f6.f0 x.f6.f1 x.f7 x.f8 _ _ (Kd.C_below HC3.out HB1.out) HL3.out HCE.out).mono ?_); rintro e w2 ⟨rfl, hb2⟩; have HB2 := Aside0.mk (HB1.out.trans (hb2.mono HB1.out.size)); have HX2 := Aside0.mk (blk_below HX1.out hb2); clear hb2))

 refine startS (n := 22) (S := (fun w' => w'.heap[gb]? = some (.cells (chA x (.slice A3 x.f2.length c3)) 32 (0, 0)) ∧ w'.cell? ⟨g, 2, none⟩ = some (.map (some mb)) ∧ w'.heap[mb]? = some (.map (es.map entE).toArray cc))) (ds := []) (⟨HX2.out, (blk_cell (blk_below HO.out.blk HB2.out) 2).trans rfl, blk_below HO.out.map (below_drew HB2.out)⟩) (fun hHeld => ?_)
 refine with_tabW tka.tab7 tka.bits7 (fun HT_ HW_ => ?_)
 refine pureT (i := 0) (N := (some 22)) HT_ ?_
 refine pureT (i := 2) (N := (some 24)) HT_ ?_
 refine pureT (i := 3) (N := (some 25)) HT_ ?_
 refine pureT (i := 4) (N := (some 26)) HT_ ?_
 refine takeS (i := 1) (N := (some 23)) (v := ?_) HT_ HW_ hHeld ?_ ?_
 rotate_left
 ·rintro w' ⟨s0, s1, s2⟩; have f1 : w'.cell? ⟨gb, 2, none⟩ = some (.int .i64 x.f1) := (blk_cell s0 2).trans rfl; have f2 : w'.cell? ⟨gb, 1, none⟩ = some (.int .i64 x.f0.f1) := (blk_cell s0 1).trans rfl
  go_simp
  with_reducible rfl
 refine normS (N := (some 23)) ?_
 refine takeS (i := 5) (N := (some 27)) (v := ?_) HT_ HW_ hHeld ?_ ?_
 rotate_left
 ·rintro w' ⟨s0, s1, s2⟩; have f1 : w'.cell? ⟨gb, 2, none⟩ = some (.int .i64 x.f1) := (blk_cell s0 2).trans rfl; have f2 : w'.cell? ⟨gb, 1, none⟩ = some (.int .i64 x.f0.f1) := (blk_cell s0 1).trans rfl
  go_simp
  with_reducible rfl
 refine normS (N := (some 27)) ?_
 refine oneS (i := 6) (N := (some 28)) HT_ (fun K hK => ?_)
 refine goes_ Try.func35 (by kernel_rfl) rfl #[.slice A0 known.length c0, .int .i64 x.f0.f1] (by rfl) rfl rfl argS ?_
 refine (clock_At.calls A0 c0 known x.f0.f1 _ _ (Kd.C_drew (Kd.C_below HK.out HB2.out)) HKC.out HAT.out).mono ?_
 rintro e w3 ⟨rfl, ⟨nd2, hnd2⟩⟩
 refine ⟨_, rfl, ?_⟩
 have HB3 := Aside0.mk (show Below w.heap.size w w3 by rw [hnd2]; exact pw_below_drewN (below_drew HB2.out) nd2)
 have hS3 : (fun w' => w'.heap[gb]? = some (.cells (chA x (.slice A3 x.f2.length c3)) 32 (0, 0)) ∧ w'.cell? ⟨g, 2, none⟩ = some (.map (some mb)) ∧ w'.heap[mb]? = some (.map (es.map entE).toArray cc)) w3 := by rw [hnd2]; exact ⟨hHeld.1, hHeld.2.1, hHeld.2.2⟩
 clear hnd2
 refine hK.out _ _ (hS3) (fun hHeld => ?_)
 clear hK K
 refine normS (N := (some 28)) ?_
 refine pureT (i := 7) (N := (some 29)) HT_ ?_
 refine pureT (i := 8) (N := (some 30)) HT_ ?_
 refine pureT (i := 9) (N := (some 31)) HT_ ?_
 refine pureT (i := 10) (N := (some 32)) HT_ ?_
 refine pureT (i := 11) (N := (some 33)) HT_ ?_
 refine pureT (i := 12) (N := (some 34)) HT_ ?_
 refine pureT (i := 13) (N := (some 35)) HT_ ?_
 refine pureT (i := 14) (N := (some 36)) HT_ ?_
 refine takeS (i := 15) (N := (some 37)) (v := ?_) HT_ HW_ hHeld ?_ ?_
 rotate_left
 ·rintro w' ⟨s0, s1, s2⟩; have f1 : w'.cell? ⟨gb, 2, none⟩ = some (.int .i64 x.f1) := (blk_cell s0 2).trans rfl; have f2 : w'.cell? ⟨gb, 1, none⟩ = some (.int .i64 x.f0.f1) := (blk_cell s0 1).trans rfl
  go_simp
  with_reducible rfl
 refine normS (N := (some 37)) ?_
 refine takeS (i := 16) (N := (some 38)) (v := ?_) HT_ HW_ hHeld ?_ ?_
 rotate_left
 ·rintro w' ⟨s0, s1, s2⟩
  refine Eq.trans (load32_run (x := x) (v := (.slice A3 x.f2.length c3)) _ (p := .tmp 5) ?ho_ ?hp_ (blk_cells s0)) ?hr_
  case ho_ => rfl
  case hp_ => rfl
  case hr_ => rfl
 refine normS (N := (some 38)) ?_
 refine oneS (i := 17) (N := (some 39)) HT_ (fun K hK => ?_)
 refine goes_ Try.func36 (by kernel_rfl) rfl #[(.agg #[.int .i64 x.f0.f0, .int .i64 x.f0.f1, .int .i64 x.f1, (.slice A3 x.f2.length c3), .int .i64 x.f3, .int .i64 x.f4.f0, .int .i64 x.f4.f1, .int .i64 x.f5.f0, .int .i64 x.f5.f1, .int .i64 x.f6.f0, .int .i64 x.f6.f1, .string x.f7, .string x.f8])] (by rfl) rfl rfl argS ?_
 refine (causal_of.calls x.f0.f0 x.f0.f1 x.f1 A3 c3 x.f2 x.f3 x.f4.f0 x.f4.f1 x.f5.f0 x.f5.f1 x.f6.f0 x.f6.f1 x.f7 x.f8 x.f0.f1 x.f1 _ (Kd.C_below HC3.out HB3.out) HL3.out rfl).mono ?_
 rintro e w4 ⟨rfl, hb4⟩
 refine ⟨_, rfl, ?_⟩
 have hS4 : (fun w' => w'.heap[gb]? = some (.cells (chA x (.slice A3 x.f2.length c3)) 32 (0, 0)) ∧ w'.cell? ⟨g, 2, none⟩ = some (.map (some mb)) ∧ w'.heap[mb]? = some (.map (es.map entE).toArray cc)) w4 := ⟨blk_below hHeld.1 hb4, (hb4.cell (World.block_lt_of_cell? _ _ hHeld.2.1)).trans hHeld.2.1, blk_below hHeld.2.2 hb4⟩
 have HB4 := Aside0.mk (HB3.out.trans (hb4.mono HB3.out.size))
 clear hb4
 refine hK.out _ _ (hS4) (fun hHeld => ?_)
 clear hK K
 refine normS (N := (some 39)) ?_
 refine takeS (i := 18) (N := (some 40)) (v := ?_) HT_ HW_ hHeld ?_ ?_
 rotate_left
 ·rintro w' ⟨s0, s1, s2⟩
  have hl_ : (Instr.lookup 69 (.map (some mb)) (.agg #[.int .i64 x.f0.f1, .int .i64 x.f1]) false).run Try.prog w' = .ok (.int .i64 0) w' := by
   have h_ := look_run (show MapE w' mb es cc from s2) (keyOf x)
   rw [HOWN.out] at h_
   exact h_
  go_simp
  rfl
 refine normS (N := (some 40)) ?_
 refine pureT (i := 19) (N := (some 41)) HT_ ?_
 refine pureT (i := 20) (N := (some 42)) HT_ ?_
 refine pureT (i := 21) (N := (some 43)) HT_ ?_
 refine done_ (done_of HT_.out (by kernel_rfl)) ?_
 have HX4 := Aside0.mk hS4.1
 clear hS4 hS3 hHeld

 go_wp2_with (first | ((with_reducible refine gate_dst (N := 45) rfl ?_); refine load32_ev rfl (N := 45) rfl x (.slice A3 x.f2.length c3) (p := .tmp 5) rfl (ad := ⟨gb, 0, none⟩) rfl (blk_cells HX4.out) ?_) | (go_at_call 37; (with_reducible refine (causal_ready.calls 71 A0 c0 known x.f0.f0 x.f0.f1 x.f1 A3 c3 x.f2 x.f3 x.f4.f0 x.f4.f1 x.f5.f0 x.f5.f1 x.f6.f0 x.f6.f1 x.f7 x.f8 _ _ (Kd.C_below HK.out HB4.out) HKC.out (Kd.C_below HC3.out HB4.out) HL3.out HRD.out).mono ?_); rintro e w5 ⟨rfl, hb5⟩; have HB5 := Aside0.mk (HB4.out.trans (hb5.mono HB4.out.size)); have HX5 := Aside0.mk (blk_below HX4.out hb5); clear hb5) | ((with_reducible refine gate_dst (N := 49) rfl ?_); refine load32_ev rfl (N := 49) rfl x (.slice A3 x.f2.length c3) (p := .tmp 5) rfl (ad := ⟨gb, 0, none⟩) rfl (blk_cells HX5.out) ?_) | (go_at_call 39; (with_reducible refine (change_Copy.calls x.f0.f0 x.f0.f1 x.f1 A3 c3 x.f2 x.f3 x.f4.f0 x.f4.f1 x.f5.f0 x.f5.f1 x.f6.f0 x.f6.f1 x.f7 x.f8 x.f0.f0 x.f0.f1 x.f1 x.f2 x.f3 x.f4.f0 x.f4.f1 x.f5.f0 x.f5.f1 x.f6.f0 x.f6.f1 x.f7 x.f8 _ (Kd.C_below HC3.out HB5.out) HL3.out HCP.out).mono ?_); rintro e w6 ⟨v6, rfl, hv6, hb6⟩; obtain ⟨A6, c6, rfl⟩ := Kd.R_slice hv6; have HV6 := Aside0.mk (Kd.R_mono (Kd.R_bound hv6) (ok' := fun k => w5.heap.size ≤ k ∧ k < w6.heap.size) (fun k hk => ⟨hk.2.1, hk.2.2.1⟩)); have HB6 := Aside0.mk (HB5.out.trans (hb6.mono HB5.out.size)); clear hv6 hb6) | (go_at_call 38; (with_reducible refine (release_calls (HBUF.out.bound.below HB6.out) HN.out A0 c0 known (Kd.C_below HK.out HB6.out) HKC.out x A6 c6 (Kd.R_lower HV6.out (Nat.le_trans HBUF.out.base_le HB5.out.size)) ?hxp H64.out).mono ?_); (case hxp => exact fun k hk hp => by have h1_ := HB5.out.size; omega); rintro e w7 ⟨P', O, v7, rfl, hr1, hr2, hr3, hr4, hr5, hr6⟩; have HR1 := Aside0.mk hr1; have HR2 := Aside0.mk hr2; have HR3 := Aside0.mk hr3; have HR4 := Aside0.mk hr4; have HR5 := Aside0.mk hr5; have HR6 := Aside0.mk hr6; clear hr1 hr2 hr3 hr4 hr5 hr6))
 go_ret2
 refine ⟨P', O, v7, rfl, HR1.out, HR2.out, fun k hk => .inl (HR3.out k hk).1, HR4.out, fun k hk => ?_, (Kept.of_below HB6.out P).then_ HR6.out (fun k hk => .inl hk.1)⟩
 have h5 := HB5.out.size
 have h6 := HB6.out.size
 rcases HR5.out k hk with h_ | h_ | h_
 ·exact .inr (by omega)
 ·exact .inl h_.1
 ·exact .inr (by omega)
set_option maxHeartbeats 8000000 in
set_option maxRecDepth 100000 in
theorem take_full {w : World} {base : Nat} {P : Nat → Prop} {g : Nat} {room : Int} {l : List S32} (hB : BufI w base P g room l) (A0 : Option Addr) (c0 : Nat) (known : List Int) (hk : Kd.C (Kd.int .i64) w A0 known.length known) (hkc : known.length ≤ c0)
  (x : S32) (A3 : Option Addr) (c3 : Nat) (hx : Kd.C (Kd.int .i64) w A3 x.f2.length x.f2) (hx3 : x.f2.length ≤ c3) (hs : x.f7.size < 4611686018427387904) (hc : chkC known = 0) (hc2 : checkX x = 0) (hw : withinX known x = false) (ho : ownX l x = false) (hr : ripeC known x = false) (hf : room ≤ l.length) :
  Calls Try.prog 13 #[.pointer (some ⟨g, 0, none⟩), .slice A0 known.length c0, (.agg #[.int .i64 x.f0.f0, .int .i64 x.f0.f1, .int .i64 x.f1, (.slice A3 x.f2.length c3), .int .i64 x.f3, .int .i64 x.f4.f0, .int .i64 x.f4.f1, .int .i64 x.f5.f0, .int .i64 x.f5.f1, .int .i64 x.f6.f0, .int .i64 x.f6.f1, .string x.f7, .string x.f8])] w (TakeB w base P g room (l, [], 6)) := by
 have HBUF := Aside0.mk hB
 have HK := Aside0.mk hk
 have HKC := Aside0.mk hkc
 have HC3 := Aside0.mk hx
 have HL3 := Aside0.mk hx3
 have HCK := Aside0.mk (clock_Check_is known 66 (by decide))
 rw [hc] at HCK
 have HCE := Aside0.mk (change_Check_is (x.f7.size + 200) x.f0.f0 x.f0.f1 x.f1 x.f2 x.f3 x.f4.f0 x.f4.f1 x.f5.f0 x.f5.f1 x.f6.f0 x.f6.f1 x.f7 x.f8 hs (by omega) (by omega))
 rw [show checkC x.f0.f0 x.f0.f1 x.f1 x.f2 x.f3 x.f4.f0 x.f4.f1 x.f5.f0 x.f5.f1 x.f6.f0 x.f6.f1 x.f7 x.f8 = checkX x from rfl, hc2] at HCE
 have HX64 := Aside0.mk (check_ok hc2)
 have HCH := Aside0.mk hc
 obtain ⟨at_, hat_⟩ : ∃ a, atC known x.f0.f1 = a := ⟨_, rfl⟩
 have HAT := Aside0.mk (clock_At_is known x.f0.f1)
 rw [hat_] at HAT
 have hwx : withinX known x = decide (x.f1 ≤ at_) := by unfold withinX; rw [hat_]
 clear hat_

 rw [hw] at hwx
 have d1 : decide (x.f1 ≤ at_) = false := hwx.symm
 obtain ⟨mb, es, cc, A, ch, hO⟩ := HBUF.out.opened
 have HO := Aside0.mk hO
 clear hO

 have hown : valP es (keyOf x) = .int .i64 0 := by
  rw [HO.out.ok.val, if_neg (of_decide_eq_false ho)]
 have HOWN := Aside0.mk hown
 have HRD := Aside0.mk (ready_is (known := known) (x := x) hc (check_ok hc2).2.2.2.2.2 71 (by decide))

 rw [hr] at HRD
 have d3 : decide (room ≤ (l.length : Int)) = true := decide_eq_true hf
 have d4 : decide ((l.length : Int) ≥ room) = true := decide_eq_true hf
 clear hB hk hkc hx hx3 hs hc hc2 hw hwx ho hown hr hf
 go_enter Try.func13, Try.ntmps13
 go_wp2_with (first | ((with_reducible refine gate_dst (N := 5) rfl ?_); refine boxE (N := 5) (cs := #[.int .i64 x.f0.f0, .int .i64 x.f0.f1, .int .i64 x.f1, (.slice A3 x.f2.length c3), .int .i64 x.f3, .int .i64 x.f4.f0, .int .i64 x.f4.f1, .int .i64 x.f5.f0, .int .i64 x.f5.f1, .int .i64 x.f6.f0, .int .i64 x.f6.f1, .string x.f7, .string x.f8]) (t := 32) ?_; intro gb hr_ w0 hbox hb; have HXgb := Aside0.mk hbox; have HBgb := Aside0.mk hb; have HNgb := Aside0.mk (Nat.le_of_eq hr_.symm); clear hbox hb hr_) | (go_at_call 33; (with_reducible refine (clock_Check.calls 66 A0 c0 known _ _ (Kd.C_below HK.out HBgb.out) HKC.out HCK.out).mono ?_); rintro e w1 ⟨rfl, ⟨nd, hnd⟩⟩; have HB1 := Aside0.mk (show Below w.heap.size w w1 by rw [hnd]; exact pw_below_drewN HBgb.out nd); have HX1 := Aside0.mk (show w1.heap[gb]? = some (.cells (chA x (.slice A3 x.f2.length c3)) 32 (0, 0)) by rw [hnd]; exact HXgb.out); clear hnd nd) | ((with_reducible refine gate_dst (N := 17) rfl ?_); refine load32_ev rfl (N := 17) rfl x (.slice A3 x.f2.length c3) (p := .tmp 5) rfl (ad := ⟨gb, 0, none⟩) rfl (blk_cells HX1.out) ?_) | (go_at_call 34; (with_reducible refine (change_Check.calls (x.f7.size + 200) x.f0.f0 x.f0.f1 x.f1 A3 c3 x.f2 x.f3 x.f4.f0 x.f4.f1 x.f5.f0 x.f5.f1 x.f6.f0 x.f6.f1 x.f7 x.f8 _ _ (Kd.C_below HC3.out HB1.out) HL3.out HCE.out).mono ?_); rintro e w2 ⟨rfl, hb2⟩; have HB2 := Aside0.mk (HB1.out.trans (hb2.mono HB1.out.size)); have HX2 := Aside0.mk (blk_below HX1.out hb2); clear hb2))

 refine startS (n := 22) (S := (fun w' => w'.heap[gb]? = some (.cells (chA x (.slice A3 x.f2.length c3)) 32 (0, 0)) ∧ w'.cell? ⟨g, 2, none⟩ = some (.map (some mb)) ∧ w'.heap[mb]? = some (.map (es.map entE).toArray cc))) (ds := []) (⟨HX2.out, (blk_cell (blk_below HO.out.blk HB2.out) 2).trans rfl, blk_below HO.out.map (below_drew HB2.out)⟩) (fun hHeld => ?_)
 refine with_tabW tka.tab7 tka.bits7 (fun HT_ HW_ => ?_)
 refine pureT (i := 0) (N := (some 22)) HT_ ?_
 refine pureT (i := 2) (N := (some 24)) HT_ ?_
 refine pureT (i := 3) (N := (some 25)) HT_ ?_
 refine pureT (i := 4) (N := (some 26)) HT_ ?_
 refine takeS (i := 1) (N := (some 23)) (v := ?_) HT_ HW_ hHeld ?_ ?_
 rotate_left
 ·rintro w' ⟨s0, s1, s2⟩; have f1 : w'.cell? ⟨gb, 2, none⟩ = some (.int .i64 x.f1) := (blk_cell s0 2).trans rfl; have f2 : w'.cell? ⟨gb, 1, none⟩ = some (.int .i64 x.f0.f1) := (blk_cell s0 1).trans rfl
  go_simp
  with_reducible rfl
 refine normS (N := (some 23)) ?_
 refine takeS (i := 5) (N := (some 27)) (v := ?_) HT_ HW_ hHeld ?_ ?_
 rotate_left
 ·rintro w' ⟨s0, s1, s2⟩; have f1 : w'.cell? ⟨gb, 2, none⟩ = some (.int .i64 x.f1) := (blk_cell s0 2).trans rfl; have f2 : w'.cell? ⟨gb, 1, none⟩ = some (.int .i64 x.f0.f1) := (blk_cell s0 1).trans rfl
  go_simp
  with_reducible rfl
 refine normS (N := (some 27)) ?_
 refine oneS (i := 6) (N := (some 28)) HT_ (fun K hK => ?_)
 refine goes_ Try.func35 (by kernel_rfl) rfl #[.slice A0 known.length c0, .int .i64 x.f0.f1] (by rfl) rfl rfl argS ?_
 refine (clock_At.calls A0 c0 known x.f0.f1 _ _ (Kd.C_drew (Kd.C_below HK.out HB2.out)) HKC.out HAT.out).mono ?_
 rintro e w3 ⟨rfl, ⟨nd2, hnd2⟩⟩
 refine ⟨_, rfl, ?_⟩
 have HB3 := Aside0.mk (show Below w.heap.size w w3 by rw [hnd2]; exact pw_below_drewN (below_drew HB2.out) nd2)
 have hS3 : (fun w' => w'.heap[gb]? = some (.cells (chA x (.slice A3 x.f2.length c3)) 32 (0, 0)) ∧ w'.cell? ⟨g, 2, none⟩ = some (.map (some mb)) ∧ w'.heap[mb]? = some (.map (es.map entE).toArray cc)) w3 := by rw [hnd2]; exact ⟨hHeld.1, hHeld.2.1, hHeld.2.2⟩
 clear hnd2
 refine hK.out _ _ (hS3) (fun hHeld => ?_)
 clear hK K
 refine normS (N := (some 28)) ?_
 refine pureT (i := 7) (N := (some 29)) HT_ ?_
 refine pureT (i := 8) (N := (some 30)) HT_ ?_
 refine pureT (i := 9) (N := (some 31)) HT_ ?_
 refine pureT (i := 10) (N := (some 32)) HT_ ?_
 refine pureT (i := 11) (N := (some 33)) HT_ ?_
 refine pureT (i := 12) (N := (some 34)) HT_ ?_
 refine pureT (i := 13) (N := (some 35)) HT_ ?_
 refine pureT (i := 14) (N := (some 36)) HT_ ?_
 refine takeS (i := 15) (N := (some 37)) (v := ?_) HT_ HW_ hHeld ?_ ?_
 rotate_left
 ·rintro w' ⟨s0, s1, s2⟩; have f1 : w'.cell? ⟨gb, 2, none⟩ = some (.int .i64 x.f1) := (blk_cell s0 2).trans rfl; have f2 : w'.cell? ⟨gb, 1, none⟩ = some (.int .i64 x.f0.f1) := (blk_cell s0 1).trans rfl
  go_simp
  with_reducible rfl
 refine normS (N := (some 37)) ?_
 refine takeS (i := 16) (N := (some 38)) (v := ?_) HT_ HW_ hHeld ?_ ?_
 rotate_left
 ·rintro w' ⟨s0, s1, s2⟩
  refine Eq.trans (load32_run (x := x) (v := (.slice A3 x.f2.length c3)) _ (p := .tmp 5) ?ho_ ?hp_ (blk_cells s0)) ?hr_
  case ho_ => rfl
  case hp_ => rfl
  case hr_ => rfl
 refine normS (N := (some 38)) ?_
 refine oneS (i := 17) (N := (some 39)) HT_ (fun K hK => ?_)
 refine goes_ Try.func36 (by kernel_rfl) rfl #[(.agg #[.int .i64 x.f0.f0, .int .i64 x.f0.f1, .int .i64 x.f1, (.slice A3 x.f2.length c3), .int .i64 x.f3, .int .i64 x.f4.f0, .int .i64 x.f4.f1, .int .i64 x.f5.f0, .int .i64 x.f5.f1, .int .i64 x.f6.f0, .int .i64 x.f6.f1, .string x.f7, .string x.f8])] (by rfl) rfl rfl argS ?_
 refine (causal_of.calls x.f0.f0 x.f0.f1 x.f1 A3 c3 x.f2 x.f3 x.f4.f0 x.f4.f1 x.f5.f0 x.f5.f1 x.f6.f0 x.f6.f1 x.f7 x.f8 x.f0.f1 x.f1 _ (Kd.C_below HC3.out HB3.out) HL3.out rfl).mono ?_
 rintro e w4 ⟨rfl, hb4⟩
 refine ⟨_, rfl, ?_⟩
 have hS4 : (fun w' => w'.heap[gb]? = some (.cells (chA x (.slice A3 x.f2.length c3)) 32 (0, 0)) ∧ w'.cell? ⟨g, 2, none⟩ = some (.map (some mb)) ∧ w'.heap[mb]? = some (.map (es.map entE).toArray cc)) w4 := ⟨blk_below hHeld.1 hb4, (hb4.cell (World.block_lt_of_cell? _ _ hHeld.2.1)).trans hHeld.2.1, blk_below hHeld.2.2 hb4⟩
 have HB4 := Aside0.mk (HB3.out.trans (hb4.mono HB3.out.size))
 clear hb4
 refine hK.out _ _ (hS4) (fun hHeld => ?_)
 clear hK K
 refine normS (N := (some 39)) ?_
 refine takeS (i := 18) (N := (some 40)) (v := ?_) HT_ HW_ hHeld ?_ ?_
 rotate_left
 ·rintro w' ⟨s0, s1, s2⟩
  have hl_ : (Instr.lookup 69 (.map (some mb)) (.agg #[.int .i64 x.f0.f1, .int .i64 x.f1]) false).run Try.prog w' = .ok (.int .i64 0) w' := by
   have h_ := look_run (show MapE w' mb es cc from s2) (keyOf x)
   rw [HOWN.out] at h_
   exact h_
  go_simp
  rfl
 refine normS (N := (some 40)) ?_
 refine pureT (i := 19) (N := (some 41)) HT_ ?_
 refine pureT (i := 20) (N := (some 42)) HT_ ?_
 refine pureT (i := 21) (N := (some 43)) HT_ ?_
 refine done_ (done_of HT_.out (by kernel_rfl)) ?_
 have HX4 := Aside0.mk hS4.1
 clear hS4 hS3 hHeld

 go_wp2_with (first | ((with_reducible refine gate_dst (N := 45) rfl ?_); refine load32_ev rfl (N := 45) rfl x (.slice A3 x.f2.length c3) (p := .tmp 5) rfl (ad := ⟨gb, 0, none⟩) rfl (blk_cells HX4.out) ?_) | (go_at_call 37; (with_reducible refine (causal_ready.calls 71 A0 c0 known x.f0.f0 x.f0.f1 x.f1 A3 c3 x.f2 x.f3 x.f4.f0 x.f4.f1 x.f5.f0 x.f5.f1 x.f6.f0 x.f6.f1 x.f7 x.f8 _ _ (Kd.C_below HK.out HB4.out) HKC.out (Kd.C_below HC3.out HB4.out) HL3.out HRD.out).mono ?_); rintro e w5 ⟨rfl, hb5⟩; have HB5 := Aside0.mk (HB4.out.trans (hb5.mono HB4.out.size)); have HX5 := Aside0.mk (blk_below HX4.out hb5); clear hb5) | (go_at_call 16; (with_reducible refine (len_calls (HBUF.out.below HB5.out)).mono ?_); rintro e w6 ⟨rfl, rfl⟩) | (go_at_call 40; (with_reducible refine (room_calls (HBUF.out.below HB5.out)).mono ?_); rintro e w7 ⟨rfl, rfl⟩))
 go_ret2
 exact TakeB.err HBUF.out HB5.out
end Go.Proofs.Ytnopjjilpgekfaa.PCa
