/- What the statement's row needs of this session's texts, joined by program: part 4. -/
import Derived.Test.YtnopjjilpgekfaaQL2
namespace Go.Proofs.Ytnopjjilpgekfaa.PCa
open Go.RowKit Go.Proofs.YtnopjjilpgekfaaW.PrintWords Go.Proofs.YtnopjjilpgekfaaW.PrintLast Go.Proofs.YtnopjjilpgekfaaW.PrintMore
attribute [local go_sem] max2_int min2_int max_two min_two max_three min_three max_four min_four
set_option linter.unusedVariables false
set_option linter.unusedSimpArgs false
attribute [local go_sem high] eqA30
def topiaryref05_Same.f (k : Nat) (a0_0 : Int) (a0_1 : Int) (a0_2 : Int) (l0_3 : List Int) (a0_4 : Int) (a0_5 : Int) (a0_6 : Int) (a0_7 : Int) (a0_8 : Int) (a0_9 : Int) (a0_10 : Int) (a0_11 : ByteArray) (a0_12 : ByteArray) (a1_0 : Int) (a1_1 : Int) (a1_2 : Int) (l1_3 : List Int) (a1_4 : Int) (a1_5 : Int) (a1_6 : Int) (a1_7 : Int) (a1_8 : Int) (a1_9 : Int) (a1_10 : Int) (a1_11 : ByteArray) (a1_12 : ByteArray) : Option (Bool) := if (a0_0 == a1_0 && (a0_1 == a1_1)) = true then (if a0_2 = a1_2 then ((topiaryref02_Same.f k l0_3 l1_3).bind fun t125 => (if t125 = true then (if a0_4 = a1_4 then (if (a0_5 == a1_5 && (a0_6 == a1_6)) = true then (if (a0_7 == a1_7 && (a0_8 == a1_8)) = true then (if (a0_9 == a1_9 && (a0_10 == a1_10)) = true then (if a0_11.toList = a1_11.toList then (some (a0_12.toList == a1_12.toList)) else (some false)) else (some false)) else (some false)) else (some false)) else (some false)) else (some false))) else (some false)) else (some false)
set_option maxHeartbeats 8000000 in
set_option maxRecDepth 100000 in
theorem topiaryref05_Same.calls (k : Nat) (a0_0 : Int) (a0_1 : Int) (a0_2 : Int) (A0_3 : Option Addr) (c0_3 : Nat) (l0_3 : List Int) (a0_4 : Int) (a0_5 : Int) (a0_6 : Int) (a0_7 : Int) (a0_8 : Int) (a0_9 : Int) (a0_10 : Int) (a0_11 : ByteArray) (a0_12 : ByteArray) (a1_0 : Int) (a1_1 : Int) (a1_2 : Int) (A1_3 : Option Addr) (c1_3 : Nat) (l1_3 : List Int) (a1_4 : Int) (a1_5 : Int) (a1_6 : Int) (a1_7 : Int) (a1_8 : Int) (a1_9 : Int) (a1_10 : Int) (a1_11 : ByteArray) (a1_12 : ByteArray) (r : Bool) (w : World) (hr0_3 : Kd.C (Kd.int .i64) w A0_3 l0_3.length l0_3) (hc0_3 : l0_3.length ≤ c0_3) (hr1_3 : Kd.C (Kd.int .i64) w A1_3 l1_3.length l1_3) (hc1_3 : l1_3.length ≤ c1_3) (h : topiaryref05_Same.f k a0_0 a0_1 a0_2 l0_3 a0_4 a0_5 a0_6 a0_7 a0_8 a0_9 a0_10 a0_11 a0_12 a1_0 a1_1 a1_2 l1_3 a1_4 a1_5 a1_6 a1_7 a1_8 a1_9 a1_10 a1_11 a1_12 = some r) :
  Calls Try.prog 45 #[.agg #[.int .i64 a0_0, .int .i64 a0_1, .int .i64 a0_2, .slice A0_3 l0_3.length c0_3, .int .i64 a0_4, .int .i64 a0_5, .int .i64 a0_6, .int .i64 a0_7, .int .i64 a0_8, .int .i64 a0_9, .int .i64 a0_10, .string a0_11, .string a0_12], .agg #[.int .i64 a1_0, .int .i64 a1_1, .int .i64 a1_2, .slice A1_3 l1_3.length c1_3, .int .i64 a1_4, .int .i64 a1_5, .int .i64 a1_6, .int .i64 a1_7, .int .i64 a1_8, .int .i64 a1_9, .int .i64 a1_10, .string a1_11, .string a1_12]] w fun e w' => e = .returned (.bool r) ∧ Below w.heap.size w w' := by
 have hu32 := Try.underlying32
 have hu30 := Try.underlying30
 have HR0_3 := Aside0.mk hr0_3
 have HC0_3 := Aside0.mk hc0_3
 clear hr0_3 hc0_3
 have HR1_3 := Aside0.mk hr1_3
 have HC1_3 := Aside0.mk hc1_3
 clear hr1_3 hc1_3
 have HB := Aside0.mk (Below.refl w.heap.size w)
 have H : (if (a0_0 == a1_0 && (a0_1 == a1_1)) = true then (if a0_2 = a1_2 then ((topiaryref02_Same.f k l0_3 l1_3).bind fun t125 => (if t125 = true then (if a0_4 = a1_4 then (if (a0_5 == a1_5 && (a0_6 == a1_6)) = true then (if (a0_7 == a1_7 && (a0_8 == a1_8)) = true then (if (a0_9 == a1_9 && (a0_10 == a1_10)) = true then (if a0_11.toList = a1_11.toList then (some (a0_12.toList == a1_12.toList)) else (some false)) else (some false)) else (some false)) else (some false)) else (some false)) else (some false))) else (some false)) else (some false)) = some r := h
 clear h
 by_cases c3 : (a0_0 == a1_0 && (a0_1 == a1_1)) = true
 ·rw [if_pos c3] at H
  have c3b0 : (a0_0 == a1_0 && (a0_1 == a1_1)) = true := c3
  (try (have c3b1 : decide (a0_0 = a1_0 && (a0_1 == a1_1)) = true := by simpa using c3))
  (try (have c3b2 : (a0_0 == a1_0 && (a0_1 == a1_1)) = true := by simpa using c3))
  clear c3
  by_cases c4 : a0_2 = a1_2
  ·rw [if_pos c4] at H
   have c4b0 : (a0_2 == a1_2) = true := beq_iff_eq.mpr c4
   have c4b1 : (a0_2 != a1_2) = false := bne_eq_false_iff_eq.mpr c4
   clear c4
   replace H := Option.bind_eq_some_iff.mp H
   obtain ⟨t125, A50, H⟩ := H
   replace H : (if t125 = true then (if a0_4 = a1_4 then (if (a0_5 == a1_5 && (a0_6 == a1_6)) = true then (if (a0_7 == a1_7 && (a0_8 == a1_8)) = true then (if (a0_9 == a1_9 && (a0_10 == a1_10)) = true then (if a0_11.toList = a1_11.toList then (some (a0_12.toList == a1_12.toList)) else (some false)) else (some false)) else (some false)) else (some false)) else (some false)) else (some false)) = some r := H
   have A5 := Aside0.mk A50
   clear A50
   by_cases c6 : t125 = true
   ·subst c6
    have H1 : (if a0_4 = a1_4 then (if (a0_5 == a1_5 && (a0_6 == a1_6)) = true then (if (a0_7 == a1_7 && (a0_8 == a1_8)) = true then (if (a0_9 == a1_9 && (a0_10 == a1_10)) = true then (if a0_11.toList = a1_11.toList then (some (a0_12.toList == a1_12.toList)) else (some false)) else (some false)) else (some false)) else (some false)) else (some false)) = some r := by rw [if_pos rfl] at H; exact H
    clear H
    have H := H1
    clear H1
    by_cases c7 : a0_4 = a1_4
    ·rw [if_pos c7] at H
     have c7b0 : (a0_4 == a1_4) = true := beq_iff_eq.mpr c7
     have c7b1 : (a0_4 != a1_4) = false := bne_eq_false_iff_eq.mpr c7
     clear c7
     by_cases c8 : (a0_5 == a1_5 && (a0_6 == a1_6)) = true
     ·rw [if_pos c8] at H
      have c8b0 : (a0_5 == a1_5 && (a0_6 == a1_6)) = true := c8
      (try (have c8b1 : decide (a0_5 = a1_5 && (a0_6 == a1_6)) = true := by simpa using c8))
      (try (have c8b2 : (a0_5 == a1_5 && (a0_6 == a1_6)) = true := by simpa using c8))
      clear c8
      by_cases c9 : (a0_7 == a1_7 && (a0_8 == a1_8)) = true
      ·rw [if_pos c9] at H
       have c9b0 : (a0_7 == a1_7 && (a0_8 == a1_8)) = true := c9
       (try (have c9b1 : decide (a0_7 = a1_7 && (a0_8 == a1_8)) = true := by simpa using c9))
       (try (have c9b2 : (a0_7 == a1_7 && (a0_8 == a1_8)) = true := by simpa using c9))
       clear c9
       by_cases c10 : (a0_9 == a1_9 && (a0_10 == a1_10)) = true
       ·rw [if_pos c10] at H
        have c10b0 : (a0_9 == a1_9 && (a0_10 == a1_10)) = true := c10
        (try (have c10b1 : decide (a0_9 = a1_9 && (a0_10 == a1_10)) = true := by simpa using c10))
        (try (have c10b2 : (a0_9 == a1_9 && (a0_10 == a1_10)) = true := by simpa using c10))
        clear c10
        by_cases c11 : a0_11.toList = a1_11.toList
        ·rw [if_pos c11] at H
         have c11b0 : (a0_11.toList == a1_11.toList) = true := beq_iff_eq.mpr c11
         have c11b1 : (a0_11.toList != a1_11.toList) = false := bne_eq_false_iff_eq.mpr c11
         clear c11
         obtain rfl := Option.some.inj H
         go_enter Try.func45, Try.ntmps45
         go_wp2_with (first | ((with_reducible refine gate_dst (N := 2) rfl ?_); refine boxE (N := 2) (cs := #[.int .i64 a0_0, .int .i64 a0_1, .int .i64 a0_2, .slice A0_3 l0_3.length c0_3, .int .i64 a0_4, .int .i64 a0_5, .int .i64 a0_6, .int .i64 a0_7, .int .i64 a0_8, .int .i64 a0_9, .int .i64 a0_10, .string a0_11, .string a0_12]) (t := 32) ?_; intro gb123 hg w12 hbox hb; have BK123 := Aside0.mk (hbox); have GW123 := Aside0.mk ((by rw [hg]; exact (below_size (bS HB)) : w.heap.size ≤ gb123)); have GE123 := Aside0.mk ((by rw [hg]; exact (below_size (bS HB)) : w.heap.size ≤ gb123)); replace HB := Aside0.mk (below_step (bS HB) hb); clear hb hbox hg) | ((with_reducible refine gate_dst (N := 3) rfl ?_); refine boxE (N := 3) (cs := #[.int .i64 a1_0, .int .i64 a1_1, .int .i64 a1_2, .slice A1_3 l1_3.length c1_3, .int .i64 a1_4, .int .i64 a1_5, .int .i64 a1_6, .int .i64 a1_7, .int .i64 a1_8, .int .i64 a1_9, .int .i64 a1_10, .string a1_11, .string a1_12]) (t := 32) ?_; intro gb124 hg w13 hbox hb; have BK124 := Aside0.mk (hbox); have GW124 := Aside0.mk ((by rw [hg]; exact (below_size (bS1 HB GE123)) : w.heap.size ≤ gb124)); have GE124 := Aside0.mk ((by rw [hg]; exact (below_size (bS1 HB GE123)) : w.heap.size ≤ gb124)); have NB123_124 := Aside0.mk ((by rw [hg]; exact Nat.ne_of_lt (blk_lt (blkS BK123)) : gb123 ≠ gb124)); have NB124_123 := Aside0.mk ((by rw [hg]; exact Nat.ne_of_gt (blk_lt (blkS BK123)) : gb124 ≠ gb123)); replace BK123 := Aside0.mk (blk_below (blkS BK123) hb); replace HB := Aside0.mk (below_step (bS1 HB GE123) hb); clear hb hbox hg; have hnb14 := NB123_124.out; have hnc14 := NB124_123.out; obtain ⟨hcz15_0, hcz15_1, hcz15_2, hcz15_3, hcz15_4, hcz15_5, hcz15_6, hcz15_7, hcz15_8, hcz15_9, hcz15_10, hcz15_11, hcz15_12⟩ := cells13 BK123.out; obtain ⟨hcz16_0, hcz16_1, hcz16_2, hcz16_3, hcz16_4, hcz16_5, hcz16_6, hcz16_7, hcz16_8, hcz16_9, hcz16_10, hcz16_11, hcz16_12⟩ := cells13 BK124.out) | (go_at_call 24; (try simp only [← List.length_take, ← List.length_drop]); (with_reducible refine (topiaryref02_Same.calls k _ _ l0_3 _ _ l1_3 true _ ?side1 ?side2 ?side3 ?side4 A5.out).mono ?_); (case side1 => exact CS (Kd.C_below HR0_3.out HB.out)); (case side2 => exact HC0_3.out); (case side3 => exact CS (Kd.C_below HR1_3.out HB.out)); (case side4 => exact HC1_3.out); rintro e w' ⟨rfl, ⟨nd, rfl⟩⟩))
         go_ret
         exact ⟨by first | rfl | (simp [errW_none, errW_some] <;> rfl) | (simp [*, errW_none, errW_some] <;> rfl), bS2 HB GE123 GE124⟩
        ·rw [if_neg c11] at H
         have c11b0 : (a0_11.toList == a1_11.toList) = false := beq_eq_false_iff_ne.mpr c11
         have c11b1 : (a0_11.toList != a1_11.toList) = true := bne_iff_ne.mpr c11
         obtain rfl := Option.some.inj H
         go_enter Try.func45, Try.ntmps45
         go_wp2_with (first | ((with_reducible refine gate_dst (N := 2) rfl ?_); refine boxE (N := 2) (cs := #[.int .i64 a0_0, .int .i64 a0_1, .int .i64 a0_2, .slice A0_3 l0_3.length c0_3, .int .i64 a0_4, .int .i64 a0_5, .int .i64 a0_6, .int .i64 a0_7, .int .i64 a0_8, .int .i64 a0_9, .int .i64 a0_10, .string a0_11, .string a0_12]) (t := 32) ?_; intro gb123 hg w17 hbox hb; have BK123 := Aside0.mk (hbox); have GW123 := Aside0.mk ((by rw [hg]; exact (below_size (bS HB)) : w.heap.size ≤ gb123)); have GE123 := Aside0.mk ((by rw [hg]; exact (below_size (bS HB)) : w.heap.size ≤ gb123)); replace HB := Aside0.mk (below_step (bS HB) hb); clear hb hbox hg) | ((with_reducible refine gate_dst (N := 3) rfl ?_); refine boxE (N := 3) (cs := #[.int .i64 a1_0, .int .i64 a1_1, .int .i64 a1_2, .slice A1_3 l1_3.length c1_3, .int .i64 a1_4, .int .i64 a1_5, .int .i64 a1_6, .int .i64 a1_7, .int .i64 a1_8, .int .i64 a1_9, .int .i64 a1_10, .string a1_11, .string a1_12]) (t := 32) ?_; intro gb124 hg w18 hbox hb; have BK124 := Aside0.mk (hbox); have GW124 := Aside0.mk ((by rw [hg]; exact (below_size (bS1 HB GE123)) : w.heap.size ≤ gb124)); have GE124 := Aside0.mk ((by rw [hg]; exact (below_size (bS1 HB GE123)) : w.heap.size ≤ gb124)); have NB123_124 := Aside0.mk ((by rw [hg]; exact Nat.ne_of_lt (blk_lt (blkS BK123)) : gb123 ≠ gb124)); have NB124_123 := Aside0.mk ((by rw [hg]; exact Nat.ne_of_gt (blk_lt (blkS BK123)) : gb124 ≠ gb123)); replace BK123 := Aside0.mk (blk_below (blkS BK123) hb); replace HB := Aside0.mk (below_step (bS1 HB GE123) hb); clear hb hbox hg; have hnb19 := NB123_124.out; have hnc19 := NB124_123.out; obtain ⟨hcz20_0, hcz20_1, hcz20_2, hcz20_3, hcz20_4, hcz20_5, hcz20_6, hcz20_7, hcz20_8, hcz20_9, hcz20_10, hcz20_11, hcz20_12⟩ := cells13 BK123.out; obtain ⟨hcz21_0, hcz21_1, hcz21_2, hcz21_3, hcz21_4, hcz21_5, hcz21_6, hcz21_7, hcz21_8, hcz21_9, hcz21_10, hcz21_11, hcz21_12⟩ := cells13 BK124.out) | (go_at_call 24; (try simp only [← List.length_take, ← List.length_drop]); (with_reducible refine (topiaryref02_Same.calls k _ _ l0_3 _ _ l1_3 true _ ?side1 ?side2 ?side3 ?side4 A5.out).mono ?_); (case side1 => exact CS (Kd.C_below HR0_3.out HB.out)); (case side2 => exact HC0_3.out); (case side3 => exact CS (Kd.C_below HR1_3.out HB.out)); (case side4 => exact HC1_3.out); rintro e w' ⟨rfl, ⟨nd, rfl⟩⟩))
         go_ret
         exact ⟨by first | rfl | (simp [errW_none, errW_some] <;> rfl) | (simp [*, errW_none, errW_some] <;> rfl), bS2 HB GE123 GE124⟩
       ·rw [if_neg c10] at H
        have c10b0 : (a0_9 == a1_9 && (a0_10 == a1_10)) = false := by simpa using c10
        (try (have c10b1 : decide (a0_9 = a1_9 && (a0_10 == a1_10)) = false := by simpa using c10))
        (try (have c10b2 : (a0_9 == a1_9 && (a0_10 == a1_10)) = false := by simpa using c10))
        (try (have c10b3 : ¬ (a0_9 = a1_9 && (a0_10 == a1_10)) := by simpa using c10))
        clear c10
        obtain rfl := Option.some.inj H
        go_enter Try.func45, Try.ntmps45
        go_wp2_with (first | ((with_reducible refine gate_dst (N := 2) rfl ?_); refine boxE (N := 2) (cs := #[.int .i64 a0_0, .int .i64 a0_1, .int .i64 a0_2, .slice A0_3 l0_3.length c0_3, .int .i64 a0_4, .int .i64 a0_5, .int .i64 a0_6, .int .i64 a0_7, .int .i64 a0_8, .int .i64 a0_9, .int .i64 a0_10, .string a0_11, .string a0_12]) (t := 32) ?_; intro gb123 hg w22 hbox hb; have BK123 := Aside0.mk (hbox); have GW123 := Aside0.mk ((by rw [hg]; exact (below_size (bS HB)) : w.heap.size ≤ gb123)); have GE123 := Aside0.mk ((by rw [hg]; exact (below_size (bS HB)) : w.heap.size ≤ gb123)); replace HB := Aside0.mk (below_step (bS HB) hb); clear hb hbox hg) | ((with_reducible refine gate_dst (N := 3) rfl ?_); refine boxE (N := 3) (cs := #[.int .i64 a1_0, .int .i64 a1_1, .int .i64 a1_2, .slice A1_3 l1_3.length c1_3, .int .i64 a1_4, .int .i64 a1_5, .int .i64 a1_6, .int .i64 a1_7, .int .i64 a1_8, .int .i64 a1_9, .int .i64 a1_10, .string a1_11, .string a1_12]) (t := 32) ?_; intro gb124 hg w23 hbox hb; have BK124 := Aside0.mk (hbox); have GW124 := Aside0.mk ((by rw [hg]; exact (below_size (bS1 HB GE123)) : w.heap.size ≤ gb124)); have GE124 := Aside0.mk ((by rw [hg]; exact (below_size (bS1 HB GE123)) : w.heap.size ≤ gb124)); have NB123_124 := Aside0.mk ((by rw [hg]; exact Nat.ne_of_lt (blk_lt (blkS BK123)) : gb123 ≠ gb124)); have NB124_123 := Aside0.mk ((by rw [hg]; exact Nat.ne_of_gt (blk_lt (blkS BK123)) : gb124 ≠ gb123)); replace BK123 := Aside0.mk (blk_below (blkS BK123) hb); replace HB := Aside0.mk (below_step (bS1 HB GE123) hb); clear hb hbox hg; have hnb24 := NB123_124.out; have hnc24 := NB124_123.out; obtain ⟨hcz25_0, hcz25_1, hcz25_2, hcz25_3, hcz25_4, hcz25_5, hcz25_6, hcz25_7, hcz25_8, hcz25_9, hcz25_10, hcz25_11, hcz25_12⟩ := cells13 BK123.out; obtain ⟨hcz26_0, hcz26_1, hcz26_2, hcz26_3, hcz26_4, hcz26_5, hcz26_6, hcz26_7, hcz26_8, hcz26_9, hcz26_10, hcz26_11, hcz26_12⟩ := cells13 BK124.out) | (go_at_call 24; (try simp only [← List.length_take, ← List.length_drop]); (with_reducible refine (topiaryref02_Same.calls k _ _ l0_3 _ _ l1_3 true _ ?side1 ?side2 ?side3 ?side4 A5.out).mono ?_); (case side1 => exact CS (Kd.C_below HR0_3.out HB.out)); (case side2 => exact HC0_3.out); (case side3 => exact CS (Kd.C_below HR1_3.out HB.out)); (case side4 => exact HC1_3.out); rintro e w' ⟨rfl, ⟨nd, rfl⟩⟩))
        go_ret
        exact ⟨by first | rfl | (simp [errW_none, errW_some] <;> rfl) | (simp [*, errW_none, errW_some] <;> rfl), bS2 HB GE123 GE124⟩
      ·rw [if_neg c9] at H
       have c9b0 : (a0_7 == a1_7 && (a0_8 == a1_8)) = false := by simpa using c9
       (try (have c9b1 : decide (a0_7 = a1_7 && (a0_8 == a1_8)) = false := by simpa using c9))
       (try (have c9b2 : (a0_7 == a1_7 && (a0_8 == a1_8)) = false := by simpa using c9))
       (try (have c9b3 : ¬ (a0_7 = a1_7 && (a0_8 == a1_8)) := by simpa using c9))
       clear c9
       obtain rfl := Option.some.inj H
       go_enter Try.func45, Try.ntmps45
       go_wp2_with (first | ((with_reducible refine gate_dst (N := 2) rfl ?_); refine boxE (N := 2) (cs := #[.int .i64 a0_0, .int .i64 a0_1, .int .i64 a0_2, .slice A0_3 l0_3.length c0_3, .int .i64 a0_4, .int .i64 a0_5, .int .i64 a0_6, .int .i64 a0_7, .int .i64 a0_8, .int .i64 a0_9, .int .i64 a0_10, .string a0_11, .string a0_12]) (t := 32) ?_; intro gb123 hg w27 hbox hb; have BK123 := Aside0.mk (hbox); have GW123 := Aside0.mk ((by rw [hg]; exact (below_size (bS HB)) : w.heap.size ≤ gb123)); have GE123 := Aside0.mk ((by rw [hg]; exact (below_size (bS HB)) : w.heap.size ≤ gb123)); replace HB := Aside0.mk (below_step (bS HB) hb); clear hb hbox hg) | ((with_reducible refine gate_dst (N := 3) rfl ?_); refine boxE (N := 3) (cs := #[.int .i64 a1_0, .int .i64 a1_1, .int .i64 a1_2, .slice A1_3 l1_3.length c1_3, .int .i64 a1_4, .int .i64 a1_5, .int .i64 a1_6, .int .i64 a1_7, .int .i64 a1_8, .int .i64 a1_9, .int .i64 a1_10, .string a1_11, .string a1_12]) (t := 32) ?_; intro gb124 hg w28 hbox hb; have BK124 := Aside0.mk (hbox); have GW124 := Aside0.mk ((by rw [hg]; exact (below_size (bS1 HB GE123)) : w.heap.size ≤ gb124)); have GE124 := Aside0.mk ((by rw [hg]; exact (below_size (bS1 HB GE123)) : w.heap.size ≤ gb124)); have NB123_124 := Aside0.mk ((by rw [hg]; exact Nat.ne_of_lt (blk_lt (blkS BK123)) : gb123 ≠ gb124)); have NB124_123 := Aside0.mk ((by rw [hg]; exact Nat.ne_of_gt (blk_lt (blkS BK123)) : gb124 ≠ gb123)); replace BK123 := Aside0.mk (blk_below (blkS BK123) hb); replace HB := Aside0.mk (below_step (bS1 HB GE123) hb); clear hb hbox hg; have hnb29 := NB123_124.out; have hnc29 := NB124_123.out; obtain ⟨hcz30_0, hcz30_1, hcz30_2, hcz30_3, hcz30_4, hcz30_5, hcz30_6, hcz30_7, hcz30_8, hcz30_9, hcz30_10, hcz30_11, hcz30_12⟩ := cells13 BK123.out; obtain ⟨hcz31_0, hcz31_1, hcz31_2, hcz31_3, hcz31_4, hcz31_5, hcz31_6, hcz31_7, hcz31_8, hcz31_9, hcz31_10, hcz31_11, hcz31_12⟩ := cells13 BK124.out) | (go_at_call 24; (try simp only [← List.length_take, ← List.length_drop]); (with_reducible refine (topiaryref02_Same.calls k _ _ l0_3 _ _ l1_3 true _ ?side1 ?side2 ?side3 ?side4 A5.out).mono ?_); (case side1 => exact CS (Kd.C_below HR0_3.out HB.out)); (case side2 => exact HC0_3.out); (case side3 => exact CS (Kd.C_below HR1_3.out HB.out)); (case side4 => exact HC1_3.out); rintro e w' ⟨rfl, ⟨nd, rfl⟩⟩))
       go_ret
       exact ⟨by first | rfl | (simp [errW_none, errW_some] <;> rfl) | (simp [*, errW_none, errW_some] <;> rfl), bS2 HB GE123 GE124⟩
     ·rw [if_neg c8] at H
      have c8b0 : (a0_5 == a1_5 && (a0_6 == a1_6)) = false := by simpa using c8
      (try (have c8b1 : decide (a0_5 = a1_5 && (a0_6 == a1_6)) = false := by simpa using c8))
      (try (have c8b2 : (a0_5 == a1_5 && (a0_6 == a1_6)) = false := by simpa using c8))
      (try (have c8b3 : ¬ (a0_5 = a1_5 && (a0_6 == a1_6)) := by simpa using c8))
      clear c8
      obtain rfl := Option.some.inj H
      go_enter Try.func45, Try.ntmps45
      go_wp2_with (first | ((with_reducible refine gate_dst (N := 2) rfl ?_); refine boxE (N := 2) (cs := #[.int .i64 a0_0, .int .i64 a0_1, .int .i64 a0_2, .slice A0_3 l0_3.length c0_3, .int .i64 a0_4, .int .i64 a0_5, .int .i64 a0_6, .int .i64 a0_7, .int .i64 a0_8, .int .i64 a0_9, .int .i64 a0_10, .string a0_11, .string a0_12]) (t := 32) ?_; intro gb123 hg w32 hbox hb; have BK123 := Aside0.mk (hbox); have GW123 := Aside0.mk ((by rw [hg]; exact (below_size (bS HB)) : w.heap.size ≤ gb123)); have GE123 := Aside0.mk ((by rw [hg]; exact (below_size (bS HB)) : w.heap.size ≤ gb123)); replace HB := Aside0.mk (below_step (bS HB) hb); clear hb hbox hg) | ((with_reducible refine gate_dst (N := 3) rfl ?_); refine boxE (N := 3) (cs := #[.int .i64 a1_0, .int .i64 a1_1, .int .i64 a1_2, .slice A1_3 l1_3.length c1_3, .int .i64 a1_4, .int .i64 a1_5, .int .i64 a1_6, .int .i64 a1_7, .int .i64 a1_8, .int .i64 a1_9, .int .i64 a1_10, .string a1_11, .string a1_12]) (t := 32) ?_; intro gb124 hg w33 hbox hb; have BK124 := Aside0.mk (hbox); have GW124 := Aside0.mk ((by rw [hg]; exact (below_size (bS1 HB GE123)) : w.heap.size ≤ gb124)); have GE124 := Aside0.mk ((by rw [hg]; exact (below_size (bS1 HB GE123)) : w.heap.size ≤ gb124)); have NB123_124 := Aside0.mk ((by rw [hg]; exact Nat.ne_of_lt (blk_lt (blkS BK123)) : gb123 ≠ gb124)); have NB124_123 := Aside0.mk ((by rw [hg]; exact Nat.ne_of_gt (blk_lt (blkS BK123)) : gb124 ≠ gb123)); replace BK123 := Aside0.mk (blk_below (blkS BK123) hb); replace HB := Aside0.mk (below_step (bS1 HB GE123) hb); clear hb hbox hg; have hnb34 := NB123_124.out; have hnc34 := NB124_123.out; obtain ⟨hcz35_0, hcz35_1, hcz35_2, hcz35_3, hcz35_4, hcz35_5, hcz35_6, hcz35_7, hcz35_8, hcz35_9, hcz35_10, hcz35_11, hcz35_12⟩ := cells13 BK123.out; obtain ⟨hcz36_0, hcz36_1, hcz36_2, hcz36_3, hcz36_4, hcz36_5, hcz36_6, hcz36_7, hcz36_8, hcz36_9, hcz36_10, hcz36_11, hcz36_12⟩ := cells13 BK124.out) | (go_at_call 24; (try simp only [← List.length_take, ← List.length_drop]); (with_reducible refine (topiaryref02_Same.calls k _ _ l0_3 _ _ l1_3 true _ ?side1 ?side2 ?side3 ?side4 A5.out).mono ?_); (case side1 => exact CS (Kd.C_below HR0_3.out HB.out)); (case side2 => exact HC0_3.out); (case side3 => exact CS (Kd.C_below HR1_3.out HB.out)); (case side4 => exact HC1_3.out); rintro e w' ⟨rfl, ⟨nd, rfl⟩⟩))
      go_ret
      exact ⟨by first | rfl | (simp [errW_none, errW_some] <;> rfl) | (simp [*, errW_none, errW_some] <;> rfl), bS2 HB GE123 GE124⟩
    ·rw [if_neg c7] at H
     have c7b0 : (a0_4 == a1_4) = false := beq_eq_false_iff_ne.mpr c7
     have c7b1 : (a0_4 != a1_4) = true := bne_iff_ne.mpr c7
     obtain rfl := Option.some.inj H
     go_enter Try.func45, Try.ntmps45
     go_wp2_with (first | ((with_reducible refine gate_dst (N := 2) rfl ?_); refine boxE (N := 2) (cs := #[.int .i64 a0_0, .int .i64 a0_1, .int .i64 a0_2, .slice A0_3 l0_3.length c0_3, .int .i64 a0_4, .int .i64 a0_5, .int .i64 a0_6, .int .i64 a0_7, .int .i64 a0_8, .int .i64 a0_9, .int .i64 a0_10, .string a0_11, .string a0_12]) (t := 32) ?_; intro gb123 hg w37 hbox hb; have BK123 := Aside0.mk (hbox); have GW123 := Aside0.mk ((by rw [hg]; exact (below_size (bS HB)) : w.heap.size ≤ gb123)); have GE123 := Aside0.mk ((by rw [hg]; exact (below_size (bS HB)) : w.heap.size ≤ gb123)); replace HB := Aside0.mk (below_step (bS HB) hb); clear hb hbox hg) | ((with_reducible refine gate_dst (N := 3) rfl ?_); refine boxE (N := 3) (cs := #[.int .i64 a1_0, .int .i64 a1_1, .int .i64 a1_2, .slice A1_3 l1_3.length c1_3, .int .i64 a1_4, .int .i64 a1_5, .int .i64 a1_6, .int .i64 a1_7, .int .i64 a1_8, .int .i64 a1_9, .int .i64 a1_10, .string a1_11, .string a1_12]) (t := 32) ?_; intro gb124 hg w38 hbox hb; have BK124 := Aside0.mk (hbox); have GW124 := Aside0.mk ((by rw [hg]; exact (below_size (bS1 HB GE123)) : w.heap.size ≤ gb124)); have GE124 := Aside0.mk ((by rw [hg]; exact (below_size (bS1 HB GE123)) : w.heap.size ≤ gb124)); have NB123_124 := Aside0.mk ((by rw [hg]; exact Nat.ne_of_lt (blk_lt (blkS BK123)) : gb123 ≠ gb124)); have NB124_123 := Aside0.mk ((by rw [hg]; exact Nat.ne_of_gt (blk_lt (blkS BK123)) : gb124 ≠ gb123)); replace BK123 := Aside0.mk (blk_below (blkS BK123) hb); replace HB := Aside0.mk (below_step (bS1 HB GE123) hb); clear hb hbox hg; have hnb39 := NB123_124.out; have hnc39 := NB124_123.out; obtain ⟨hcz40_0, hcz40_1, hcz40_2, hcz40_3, hcz40_4, hcz40_5, hcz40_6, hcz40_7, hcz40_8, hcz40_9, hcz40_10, hcz40_11, hcz40_12⟩ := cells13 BK123.out; obtain ⟨hcz41_0, hcz41_1, hcz41_2, hcz41_3, hcz41_4, hcz41_5, hcz41_6, hcz41_7, hcz41_8, hcz41_9, hcz41_10, hcz41_11, hcz41_12⟩ := cells13 BK124.out) | (go_at_call 24; (try simp only [← List.length_take, ← List.length_drop]); (with_reducible refine (topiaryref02_Same.calls k _ _ l0_3 _ _ l1_3 true _ ?side1 ?side2 ?side3 ?side4 A5.out).mono ?_); (case side1 => exact CS (Kd.C_below HR0_3.out HB.out)); (case side2 => exact HC0_3.out); (case side3 => exact CS (Kd.C_below HR1_3.out HB.out)); (case side4 => exact HC1_3.out); rintro e w' ⟨rfl, ⟨nd, rfl⟩⟩))
     go_ret
     exact ⟨by first | rfl | (simp [errW_none, errW_some] <;> rfl) | (simp [*, errW_none, errW_some] <;> rfl), bS2 HB GE123 GE124⟩
   ·replace c6 := Bool.eq_false_iff.mpr c6
    subst c6
    have H1 : (some false) = some r := by rw [if_neg (show ¬ (false = true) by decide)] at H; exact H
    clear H
    have H := H1
    clear H1
    obtain rfl := Option.some.inj H
    go_enter Try.func45, Try.ntmps45
    go_wp2_with (first | ((with_reducible refine gate_dst (N := 2) rfl ?_); refine boxE (N := 2) (cs := #[.int .i64 a0_0, .int .i64 a0_1, .int .i64 a0_2, .slice A0_3 l0_3.length c0_3, .int .i64 a0_4, .int .i64 a0_5, .int .i64 a0_6, .int .i64 a0_7, .int .i64 a0_8, .int .i64 a0_9, .int .i64 a0_10, .string a0_11, .string a0_12]) (t := 32) ?_; intro gb123 hg w42 hbox hb; have BK123 := Aside0.mk (hbox); have GW123 := Aside0.mk ((by rw [hg]; exact (below_size (bS HB)) : w.heap.size ≤ gb123)); have GE123 := Aside0.mk ((by rw [hg]; exact (below_size (bS HB)) : w.heap.size ≤ gb123)); replace HB := Aside0.mk (below_step (bS HB) hb); clear hb hbox hg) | ((with_reducible refine gate_dst (N := 3) rfl ?_); refine boxE (N := 3) (cs := #[.int .i64 a1_0, .int .i64 a1_1, .int .i64 a1_2, .slice A1_3 l1_3.length c1_3, .int .i64 a1_4, .int .i64 a1_5, .int .i64 a1_6, .int .i64 a1_7, .int .i64 a1_8, .int .i64 a1_9, .int .i64 a1_10, .string a1_11, .string a1_12]) (t := 32) ?_; intro gb124 hg w43 hbox hb; have BK124 := Aside0.mk (hbox); have GW124 := Aside0.mk ((by rw [hg]; exact (below_size (bS1 HB GE123)) : w.heap.size ≤ gb124)); have GE124 := Aside0.mk ((by rw [hg]; exact (below_size (bS1 HB GE123)) : w.heap.size ≤ gb124)); have NB123_124 := Aside0.mk ((by rw [hg]; exact Nat.ne_of_lt (blk_lt (blkS BK123)) : gb123 ≠ gb124)); have NB124_123 := Aside0.mk ((by rw [hg]; exact Nat.ne_of_gt (blk_lt (blkS BK123)) : gb124 ≠ gb123)); replace BK123 := Aside0.mk (blk_below (blkS BK123) hb); replace HB := Aside0.mk (below_step (bS1 HB GE123) hb); clear hb hbox hg; have hnb44 := NB123_124.out; have hnc44 := NB124_123.out; obtain ⟨hcz45_0, hcz45_1, hcz45_2, hcz45_3, hcz45_4, hcz45_5, hcz45_6, hcz45_7, hcz45_8, hcz45_9, hcz45_10, hcz45_11, hcz45_12⟩ := cells13 BK123.out; obtain ⟨hcz46_0, hcz46_1, hcz46_2, hcz46_3, hcz46_4, hcz46_5, hcz46_6, hcz46_7, hcz46_8, hcz46_9, hcz46_10, hcz46_11, hcz46_12⟩ := cells13 BK124.out) | (go_at_call 24; (try simp only [← List.length_take, ← List.length_drop]); (with_reducible refine (topiaryref02_Same.calls k _ _ l0_3 _ _ l1_3 false _ ?side1 ?side2 ?side3 ?side4 A5.out).mono ?_); (case side1 => exact CS (Kd.C_below HR0_3.out HB.out)); (case side2 => exact HC0_3.out); (case side3 => exact CS (Kd.C_below HR1_3.out HB.out)); (case side4 => exact HC1_3.out); rintro e w' ⟨rfl, ⟨nd, rfl⟩⟩))
    go_ret
    exact ⟨by first | rfl | (simp [errW_none, errW_some] <;> rfl) | (simp [*, errW_none, errW_some] <;> rfl), bS2 HB GE123 GE124⟩
  ·rw [if_neg c4] at H
   have c4b0 : (a0_2 == a1_2) = false := beq_eq_false_iff_ne.mpr c4
   have c4b1 : (a0_2 != a1_2) = true := bne_iff_ne.mpr c4
   obtain rfl := Option.some.inj H
   go_enter Try.func45, Try.ntmps45
   go_wp2_with (first | ((with_reducible refine gate_dst (N := 2) rfl ?_); refine boxE (N := 2) (cs := #[.int .i64 a0_0, .int .i64 a0_1, .int .i64 a0_2, .slice A0_3 l0_3.length c0_3, .int .i64 a0_4, .int .i64 a0_5, .int .i64 a0_6, .int .i64 a0_7, .int .i64 a0_8, .int .i64 a0_9, .int .i64 a0_10, .string a0_11, .string a0_12]) (t := 32) ?_; intro gb123 hg w47 hbox hb; have BK123 := Aside0.mk (hbox); have GW123 := Aside0.mk ((by rw [hg]; exact (below_size (bS HB)) : w.heap.size ≤ gb123)); have GE123 := Aside0.mk ((by rw [hg]; exact (below_size (bS HB)) : w.heap.size ≤ gb123)); replace HB := Aside0.mk (below_step (bS HB) hb); clear hb hbox hg) | ((with_reducible refine gate_dst (N := 3) rfl ?_); refine boxE (N := 3) (cs := #[.int .i64 a1_0, .int .i64 a1_1, .int .i64 a1_2, .slice A1_3 l1_3.length c1_3, .int .i64 a1_4, .int .i64 a1_5, .int .i64 a1_6, .int .i64 a1_7, .int .i64 a1_8, .int .i64 a1_9, .int .i64 a1_10, .string a1_11, .string a1_12]) (t := 32) ?_; intro gb124 hg w48 hbox hb; have BK124 := Aside0.mk (hbox); have GW124 := Aside0.mk ((by rw [hg]; exact (below_size (bS1 HB GE123)) : w.heap.size ≤ gb124)); have GE124 := Aside0.mk ((by rw [hg]; exact (below_size (bS1 HB GE123)) : w.heap.size ≤ gb124)); have NB123_124 := Aside0.mk ((by rw [hg]; exact Nat.ne_of_lt (blk_lt (blkS BK123)) : gb123 ≠ gb124)); have NB124_123 := Aside0.mk ((by rw [hg]; exact Nat.ne_of_gt (blk_lt (blkS BK123)) : gb124 ≠ gb123)); replace BK123 := Aside0.mk (blk_below (blkS BK123) hb); replace HB := Aside0.mk (below_step (bS1 HB GE123) hb); clear hb hbox hg; have hnb49 := NB123_124.out; have hnc49 := NB124_123.out; obtain ⟨hcz50_0, hcz50_1, hcz50_2, hcz50_3, hcz50_4, hcz50_5, hcz50_6, hcz50_7, hcz50_8, hcz50_9, hcz50_10, hcz50_11, hcz50_12⟩ := cells13 BK123.out; obtain ⟨hcz51_0, hcz51_1, hcz51_2, hcz51_3, hcz51_4, hcz51_5, hcz51_6, hcz51_7, hcz51_8, hcz51_9, hcz51_10, hcz51_11, hcz51_12⟩ := cells13 BK124.out))
   go_ret
   exact ⟨by first | rfl | (simp [errW_none, errW_some] <;> rfl) | (simp [*, errW_none, errW_some] <;> rfl), bS2 HB GE123 GE124⟩
 ·rw [if_neg c3] at H
  have c3b0 : (a0_0 == a1_0 && (a0_1 == a1_1)) = false := by simpa using c3
  (try (have c3b1 : decide (a0_0 = a1_0 && (a0_1 == a1_1)) = false := by simpa using c3))
  (try (have c3b2 : (a0_0 == a1_0 && (a0_1 == a1_1)) = false := by simpa using c3))
  (try (have c3b3 : ¬ (a0_0 = a1_0 && (a0_1 == a1_1)) := by simpa using c3))
  clear c3
  obtain rfl := Option.some.inj H
  go_enter Try.func45, Try.ntmps45
  go_wp2_with (first | ((with_reducible refine gate_dst (N := 2) rfl ?_); refine boxE (N := 2) (cs := #[.int .i64 a0_0, .int .i64 a0_1, .int .i64 a0_2, .slice A0_3 l0_3.length c0_3, .int .i64 a0_4, .int .i64 a0_5, .int .i64 a0_6, .int .i64 a0_7, .int .i64 a0_8, .int .i64 a0_9, .int .i64 a0_10, .string a0_11, .string a0_12]) (t := 32) ?_; intro gb123 hg w52 hbox hb; have BK123 := Aside0.mk (hbox); have GW123 := Aside0.mk ((by rw [hg]; exact (below_size (bS HB)) : w.heap.size ≤ gb123)); have GE123 := Aside0.mk ((by rw [hg]; exact (below_size (bS HB)) : w.heap.size ≤ gb123)); replace HB := Aside0.mk (below_step (bS HB) hb); clear hb hbox hg) | ((with_reducible refine gate_dst (N := 3) rfl ?_); refine boxE (N := 3) (cs := #[.int .i64 a1_0, .int .i64 a1_1, .int .i64 a1_2, .slice A1_3 l1_3.length c1_3, .int .i64 a1_4, .int .i64 a1_5, .int .i64 a1_6, .int .i64 a1_7, .int .i64 a1_8, .int .i64 a1_9, .int .i64 a1_10, .string a1_11, .string a1_12]) (t := 32) ?_; intro gb124 hg w53 hbox hb; have BK124 := Aside0.mk (hbox); have GW124 := Aside0.mk ((by rw [hg]; exact (below_size (bS1 HB GE123)) : w.heap.size ≤ gb124)); have GE124 := Aside0.mk ((by rw [hg]; exact (below_size (bS1 HB GE123)) : w.heap.size ≤ gb124)); have NB123_124 := Aside0.mk ((by rw [hg]; exact Nat.ne_of_lt (blk_lt (blkS BK123)) : gb123 ≠ gb124)); have NB124_123 := Aside0.mk ((by rw [hg]; exact Nat.ne_of_gt (blk_lt (blkS BK123)) : gb124 ≠ gb123)); replace BK123 := Aside0.mk (blk_below (blkS BK123) hb); replace HB := Aside0.mk (below_step (bS1 HB GE123) hb); clear hb hbox hg; have hnb54 := NB123_124.out; have hnc54 := NB124_123.out; obtain ⟨hcz55_0, hcz55_1, hcz55_2, hcz55_3, hcz55_4, hcz55_5, hcz55_6, hcz55_7, hcz55_8, hcz55_9, hcz55_10, hcz55_11, hcz55_12⟩ := cells13 BK123.out; obtain ⟨hcz56_0, hcz56_1, hcz56_2, hcz56_3, hcz56_4, hcz56_5, hcz56_6, hcz56_7, hcz56_8, hcz56_9, hcz56_10, hcz56_11, hcz56_12⟩ := cells13 BK124.out))
  go_ret
  exact ⟨by first | rfl | (simp [errW_none, errW_some] <;> rfl) | (simp [*, errW_none, errW_some] <;> rfl), bS2 HB GE123 GE124⟩
end Go.Proofs.Ytnopjjilpgekfaa.PCa
namespace Go.Proofs.Ytnopjjilpgekfaa.PCa
open Go.RowKit Go.Proofs.YtnopjjilpgekfaaW.PrintWords Go.Proofs.YtnopjjilpgekfaaW.PrintLast Go.Proofs.YtnopjjilpgekfaaW.PrintMore
attribute [local go_sem] max2_int min2_int max_two min_two max_three min_three max_four min_four
set_option linter.unusedVariables false
set_option linter.unusedSimpArgs false
def topiaryref07_Clock.l0 : Nat → List (S32) → List Int → Int → Option (List Int)
 | 0, _, _, _ => none
 | k + 1, x0, x3, x4 => if x4 < (x0.length : Int) then (if 0 ≤ x4 then (if ((rd_T32 x0 x4).f0.f1) ≥ 0 then (if ((rd_T32 x0 x4).f0.f1) < (x3.length : Int) then (if 0 ≤ ((rd_T32 x0 x4).f0.f1) then (topiaryref07_Clock.l0 k x0 (x3.set (((rd_T32 x0 x4).f0.f1) : Int).toNat (wrap64 ((rd x3 ((rd_T32 x0 x4).f0.f1)) + 1))) (wrap64 (x4 + 1))) else (none)) else (topiaryref07_Clock.l0 k x0 x3 (wrap64 (x4 + 1)))) else (topiaryref07_Clock.l0 k x0 x3 (wrap64 (x4 + 1)))) else (none)) else ((topiaryref02_Trim.f k x3).bind fun t118 => (some t118))
def topiaryref07_Clock.f (k : Nat) (l0 : List (S32)) : Option (List Int) := if 64 ≤ 35184372088832 then (topiaryref07_Clock.l0 k l0 (List.replicate 64 0) 0) else (none)
set_option maxHeartbeats 8000000 in
set_option maxRecDepth 100000 in
theorem topiaryref07_Clock.calls (k : Nat) (A0 : Option Addr) (c0 : Nat) (l0 : List (S32)) (r : List Int) (w : World) (hr0 : Kd.C k32 w A0 l0.length l0) (hc0 : l0.length ≤ c0) (h : topiaryref07_Clock.f k l0 = some r) :
  Calls Try.prog 14 #[.slice A0 l0.length c0] w fun e w' => ∃ v0_ : Value, e = .returned (v0_) ∧ Kd.R (Kd.int .i64) 3 w' w.heap.size (fun _ => True) v0_ r ∧ Below w.heap.size w w' := by
 have HR0 := Aside0.mk hr0
 have HC0 := Aside0.mk hc0
 clear hr0 hc0
 have HB := Aside0.mk (Below.refl w.heap.size w)
 have H : (if 64 ≤ 35184372088832 then (topiaryref07_Clock.l0 k l0 (List.replicate 64 0) 0) else (none)) = some r := h
 clear h
 by_cases c2 : 64 ≤ 35184372088832
 ·rw [if_pos c2] at H
  have c2b0 := eq_true c2
  have c2b1 : decide (64 ≤ 35184372088832) = true := decide_eq_true c2
  clear c2
  obtain ⟨y112, hy112⟩ : ∃ y_ : List Int, y_ = (List.replicate 64 0) := ⟨_, rfl⟩
  replace H : (topiaryref07_Clock.l0 k l0 y112 0) = some r := by first | (rw [hy112]; with_reducible exact H) | (have H2_ := (Option.bind_some _ _).symm.trans H; rw [hy112]; with_reducible exact H2_) | (have H2_ := (Option.bind_some _ _).symm.trans H; with_reducible exact H2_) | with_reducible exact H | (rw [hy112]; exact H) | exact H
  have Ny112 := Aside0.mk hy112
  clear hy112
  have H' := Aside0.mk H
  clear H
  go_enter Try.func14, Try.ntmps14
  go_wp2_with (first | ((with_reducible refine gate_dst (N := 6) rfl ?_); (try (refine gate_guard (by rfl) ?_; dsimp only)); refine Kd.R_make (Kd.int .i64) _ 3 rfl (N := 6) rfl 23 _ _ rfl 64 rfl rfl Try.underlying23 (.int .i64 0) 8 info3 rfl (by decide) (by omega) 0 (ok := fun _ => True) (okp := fun _ => True) rfl (fun _ hk => hk) trivial (by omega) (by omega) (Below.refl _ _) (Nat.le_refl _) ?_; intro v113 w3 ho4 hb hg_ hnew_; clear hg_ hnew_; (first | rw [← Ny112.out] at ho4 | (simp only [Int.reduceToNat] at ho4; rw [← Ny112.out] at ho4)); have HO114 := Aside0.mk (Kd.R_lower ho4 (below_size (bS HB))); replace HB := Aside0.mk (below_step (bS HB) hb); clear hb ho4))
  go_loopg [4] k (fun kq v4 w' => ∃ (x3_1 : List Int) (x4_1 : Int), v4 = .int .i64 x4_1 ∧ Aside0 (topiaryref07_Clock.l0 kq l0 x3_1 x4_1 = some r) ∧ Aside0 (kq ≤ k) ∧ Aside0 (Kd.R (Kd.int .i64) 3 w' w.heap.size (fun _ => True) v113 x3_1) ∧ Aside0 (Below w.heap.size w w'))
  case atStart => exact ⟨(y112), (0), (by first | rfl | (simp; done) | (simp [*]; done)), H', ⟨Nat.le_refl _⟩, ⟨by (with_reducible repeat (first | apply Kd.R_alloc | apply Kd.R_drewN | apply Kd.R_drew)); exact HO114.out⟩, ⟨bS HB⟩⟩
  case round =>
   clear H'
   (try clear c1); (try clear c2); (try clear c2b0); (try clear c2b1); (try clear p2)
   obtain ⟨x3_1, x4_1, rfl, HA, HK1, HO_3, HB⟩ := hrel
   cases gk with
   | zero => exact absurd HA.out (by simp [topiaryref07_Clock.l0])
   | succ k1 =>
    have H := HA.out
    clear HA
    simp only [topiaryref07_Clock.l0] at H
    by_cases c5 : x4_1 < (l0.length : Int)
    ·rw [if_pos c5] at H
     have c5b0 : decide (x4_1 < (l0.length : Int)) = true := decide_eq_true c5
     clear c5
     by_cases c6 : 0 ≤ x4_1
     ·rw [if_pos c6] at H
      have c6b0 : decide (0 ≤ x4_1) = true := decide_eq_true c6
      clear c6
      by_cases c7 : ((rd_T32 l0 x4_1).f0.f1) ≥ 0
      ·rw [if_pos c7] at H
       have c7b0 : decide (0 ≤ ((rd_T32 l0 x4_1).f0.f1)) = true := decide_eq_true c7
       clear c7
       by_cases c8 : ((rd_T32 l0 x4_1).f0.f1) < (x3_1.length : Int)
       ·rw [if_pos c8] at H
        have c8b0 : decide (((rd_T32 l0 x4_1).f0.f1) < (x3_1.length : Int)) = true := decide_eq_true c8
        clear c8
        by_cases c9 : 0 ≤ ((rd_T32 l0 x4_1).f0.f1)
        ·rw [if_pos c9] at H
         have c9b0 : decide (0 ≤ ((rd_T32 l0 x4_1).f0.f1)) = true := decide_eq_true c9
         clear c9
         obtain ⟨y117, hy117⟩ : ∃ y_ : List Int, y_ = (x3_1.set (((rd_T32 l0 x4_1).f0.f1) : Int).toNat (wrap64 ((rd x3_1 ((rd_T32 l0 x4_1).f0.f1)) + 1))) := ⟨_, rfl⟩
         replace H : (topiaryref07_Clock.l0 k1 l0 y117 (wrap64 (x4_1 + 1))) = some r := by first | (rw [hy117]; with_reducible exact H) | (have H2_ := (Option.bind_some _ _).symm.trans H; rw [hy117]; with_reducible exact H2_) | (have H2_ := (Option.bind_some _ _).symm.trans H; with_reducible exact H2_) | with_reducible exact H | (rw [hy117]; exact H) | exact H
         have Ny117 := Aside0.mk hy117
         clear hy117
         have H' := Aside0.mk H
         clear H
         have p115 : 0 ≤ (x4_1 : Int) := of_decide_eq_true asmS
         have q115 : x4_1 < (l0.length : Int) := of_decide_eq_true asmS
         obtain ⟨ad115, A115_3, c115_3, e115, hx115_0, hx115_1, hx115_2, hx115_3, hx115_4, hx115_5, hx115_6, hx115_7, hx115_8, hx115_9, hx115_10, hx115_11, hx115_12, hl115_3, hi115_3⟩ := at_T32 HR0.out x4_1 p115 q115
         cases e115
         replace hx115_0 := (HB.out.cell (World.block_lt_of_cell? w _ hx115_0)).trans hx115_0
         replace hx115_1 := (HB.out.cell (World.block_lt_of_cell? w _ hx115_1)).trans hx115_1
         replace hx115_2 := (HB.out.cell (World.block_lt_of_cell? w _ hx115_2)).trans hx115_2
         replace hx115_3 := (HB.out.cell (World.block_lt_of_cell? w _ hx115_3)).trans hx115_3
         replace hx115_4 := (HB.out.cell (World.block_lt_of_cell? w _ hx115_4)).trans hx115_4
         replace hx115_5 := (HB.out.cell (World.block_lt_of_cell? w _ hx115_5)).trans hx115_5
         replace hx115_6 := (HB.out.cell (World.block_lt_of_cell? w _ hx115_6)).trans hx115_6
         replace hx115_7 := (HB.out.cell (World.block_lt_of_cell? w _ hx115_7)).trans hx115_7
         replace hx115_8 := (HB.out.cell (World.block_lt_of_cell? w _ hx115_8)).trans hx115_8
         replace hx115_9 := (HB.out.cell (World.block_lt_of_cell? w _ hx115_9)).trans hx115_9
         replace hx115_10 := (HB.out.cell (World.block_lt_of_cell? w _ hx115_10)).trans hx115_10
         replace hx115_11 := (HB.out.cell (World.block_lt_of_cell? w _ hx115_11)).trans hx115_11
         replace hx115_12 := (HB.out.cell (World.block_lt_of_cell? w _ hx115_12)).trans hx115_12
         have HR115_3 := Aside0.mk hi115_3
         have HC115_3 := Aside0.mk hl115_3
         clear hi115_3 hl115_3
         replace p115 := eq_true p115
         replace q115 := eq_true q115
         obtain ⟨Ao11, co11, eo11⟩ := Kd.R_slice HO_3.out
         subst eo11
         have p116 : 0 ≤ (((rd_T32 l0 x4_1).f0.f1) : Int) := of_decide_eq_true asmS
         have q116 : ((rd_T32 l0 x4_1).f0.f1) < (x3_1.length : Int) := of_decide_eq_true asmS
         obtain ⟨ad116, e116, hx116_0⟩ := Kd.at_int (Kd.R_reads' HO_3.out).2.2 ((rd_T32 l0 x4_1).f0.f1) p116 q116
         cases e116
         replace p116 := eq_true p116
         replace q116 := eq_true q116
         have p10 : 0 ≤ (((rd_T32 l0 x4_1).f0.f1) : Int) := of_decide_eq_true asmS
         have q10 : (((rd_T32 l0 x4_1).f0.f1) : Int) < ((x3_1.length : Int) : Int) := of_decide_eq_true asmS
         obtain ⟨go10, co10, eo10, gb10, gl10, cl10, HG10⟩ := Kd.R_form HO_3.out (by omega)
         (first | cases eo10 | (injection eo10 with ea_ en_ ec_; (first | subst ea_ | (injection ea_ with ea_; subst ea_)); subst ec_; clear en_))
         have GB10 := Aside0.mk gb10
         have GG10 := Aside0.mk HG10
         clear gb10 gl10 HG10
         (first | simp only [add_plain] at hx116_0 | skip)
         obtain ⟨hx10_0, hf10_0⟩ := Kd.R_celln 0 HO_3.out (((rd_T32 l0 x4_1).f0.f1) : Int) p10 q10
         replace p10 := eq_true p10
         replace q10 := eq_true q10
         have HP12 := Kd.R_putg HO_3.out (((rd_T32 l0 x4_1).f0.f1) : Int) (wrap64 ((rd x3_1 ((rd_T32 l0 x4_1).f0.f1)) + 1))
         go_wp2_with (first | ((with_reducible refine gate_store (t := 3) (p := 34) rfl ?_); refine store_event (t := 3) (p := 34) (v := ?vo_w13) (w1 := (wr.setCell ⟨go10, (((rd_T32 l0 x4_1).f0.f1) : Int).toNat, none⟩ (.int .i64 (wrap64 ((rd x3_1 ((rd_T32 l0 x4_1).f0.f1)) + 1))))) ?hg ?ho ?hn ?hr ?_; (case ho => rfl); (case hg => rfl); (case hn => rfl); (case hr => first | (go_simp; done) | (go_simp; rfl)); intro w13 hw; have hg : wr.grownBy w13 (some go10) := (by rw [hw]; exact HP12.2); have hp_ : Kd.R (Kd.int .i64) 3 w13 w.heap.size (fun _ => True) (.slice (some ⟨go10, 0, none⟩) x3_1.length co11) y117 := (by rw [hw, Ny117.out]; exact HP12.1); clear HP12; replace HO_3 := Aside0.mk (hp_); replace HB := Aside0.mk ((by rw [hw]; exact below_set (HB.out) GB10.out : Below w.heap.size w w13)); clear hg hw hp_))
         go_roundg k1
         case measure => have := HK1.out; omega
         case rel => exact ⟨(y117), (wrap64 (x4_1 + 1)), (by first | rfl | (simp; done) | (simp [*]; done)), H', ⟨by have := HK1.out; omega⟩, ⟨by (with_reducible repeat (first | apply Kd.R_alloc | apply Kd.R_drewN | apply Kd.R_drew)); exact HO_3.out⟩, ⟨bS HB⟩⟩
        ·rw [if_neg c9] at H
         exact absurd H (by simp)
       ·rw [if_neg c8] at H
        have c8b0 : decide (((rd_T32 l0 x4_1).f0.f1) < (x3_1.length : Int)) = false := decide_eq_false c8
        clear c8
        have H' := Aside0.mk H
        clear H
        have p115 : 0 ≤ (x4_1 : Int) := of_decide_eq_true asmS
        have q115 : x4_1 < (l0.length : Int) := of_decide_eq_true asmS
        obtain ⟨ad115, A115_3, c115_3, e115, hx115_0, hx115_1, hx115_2, hx115_3, hx115_4, hx115_5, hx115_6, hx115_7, hx115_8, hx115_9, hx115_10, hx115_11, hx115_12, hl115_3, hi115_3⟩ := at_T32 HR0.out x4_1 p115 q115
        cases e115
        replace hx115_0 := (HB.out.cell (World.block_lt_of_cell? w _ hx115_0)).trans hx115_0
        replace hx115_1 := (HB.out.cell (World.block_lt_of_cell? w _ hx115_1)).trans hx115_1
        replace hx115_2 := (HB.out.cell (World.block_lt_of_cell? w _ hx115_2)).trans hx115_2
        replace hx115_3 := (HB.out.cell (World.block_lt_of_cell? w _ hx115_3)).trans hx115_3
        replace hx115_4 := (HB.out.cell (World.block_lt_of_cell? w _ hx115_4)).trans hx115_4
        replace hx115_5 := (HB.out.cell (World.block_lt_of_cell? w _ hx115_5)).trans hx115_5
        replace hx115_6 := (HB.out.cell (World.block_lt_of_cell? w _ hx115_6)).trans hx115_6
        replace hx115_7 := (HB.out.cell (World.block_lt_of_cell? w _ hx115_7)).trans hx115_7
        replace hx115_8 := (HB.out.cell (World.block_lt_of_cell? w _ hx115_8)).trans hx115_8
        replace hx115_9 := (HB.out.cell (World.block_lt_of_cell? w _ hx115_9)).trans hx115_9
        replace hx115_10 := (HB.out.cell (World.block_lt_of_cell? w _ hx115_10)).trans hx115_10
        replace hx115_11 := (HB.out.cell (World.block_lt_of_cell? w _ hx115_11)).trans hx115_11
        replace hx115_12 := (HB.out.cell (World.block_lt_of_cell? w _ hx115_12)).trans hx115_12
        have HR115_3 := Aside0.mk hi115_3
        have HC115_3 := Aside0.mk hl115_3
        clear hi115_3 hl115_3
        replace p115 := eq_true p115
        replace q115 := eq_true q115
        obtain ⟨Ao14, co14, eo14⟩ := Kd.R_slice HO_3.out
        subst eo14
        go_wp2
        go_roundg k1
        case measure => have := HK1.out; omega
        case rel => exact ⟨(x3_1), (wrap64 (x4_1 + 1)), (by first | rfl | (simp; done) | (simp [*]; done)), H', ⟨by have := HK1.out; omega⟩, ⟨by (with_reducible repeat (first | apply Kd.R_alloc | apply Kd.R_drewN | apply Kd.R_drew)); exact HO_3.out⟩, ⟨bS HB⟩⟩
      ·rw [if_neg c7] at H
       have c7b0 : decide (0 ≤ ((rd_T32 l0 x4_1).f0.f1)) = false := decide_eq_false c7
       clear c7
       have H' := Aside0.mk H
       clear H
       have p115 : 0 ≤ (x4_1 : Int) := of_decide_eq_true asmS
       have q115 : x4_1 < (l0.length : Int) := of_decide_eq_true asmS
       obtain ⟨ad115, A115_3, c115_3, e115, hx115_0, hx115_1, hx115_2, hx115_3, hx115_4, hx115_5, hx115_6, hx115_7, hx115_8, hx115_9, hx115_10, hx115_11, hx115_12, hl115_3, hi115_3⟩ := at_T32 HR0.out x4_1 p115 q115
       cases e115
       replace hx115_0 := (HB.out.cell (World.block_lt_of_cell? w _ hx115_0)).trans hx115_0
       replace hx115_1 := (HB.out.cell (World.block_lt_of_cell? w _ hx115_1)).trans hx115_1
       replace hx115_2 := (HB.out.cell (World.block_lt_of_cell? w _ hx115_2)).trans hx115_2
       replace hx115_3 := (HB.out.cell (World.block_lt_of_cell? w _ hx115_3)).trans hx115_3
       replace hx115_4 := (HB.out.cell (World.block_lt_of_cell? w _ hx115_4)).trans hx115_4
       replace hx115_5 := (HB.out.cell (World.block_lt_of_cell? w _ hx115_5)).trans hx115_5
       replace hx115_6 := (HB.out.cell (World.block_lt_of_cell? w _ hx115_6)).trans hx115_6
       replace hx115_7 := (HB.out.cell (World.block_lt_of_cell? w _ hx115_7)).trans hx115_7
       replace hx115_8 := (HB.out.cell (World.block_lt_of_cell? w _ hx115_8)).trans hx115_8
       replace hx115_9 := (HB.out.cell (World.block_lt_of_cell? w _ hx115_9)).trans hx115_9
       replace hx115_10 := (HB.out.cell (World.block_lt_of_cell? w _ hx115_10)).trans hx115_10
       replace hx115_11 := (HB.out.cell (World.block_lt_of_cell? w _ hx115_11)).trans hx115_11
       replace hx115_12 := (HB.out.cell (World.block_lt_of_cell? w _ hx115_12)).trans hx115_12
       have HR115_3 := Aside0.mk hi115_3
       have HC115_3 := Aside0.mk hl115_3
       clear hi115_3 hl115_3
       replace p115 := eq_true p115
       replace q115 := eq_true q115
       go_wp2
       go_roundg k1
       case measure => have := HK1.out; omega
       case rel => exact ⟨(x3_1), (wrap64 (x4_1 + 1)), (by first | rfl | (simp; done) | (simp [*]; done)), H', ⟨by have := HK1.out; omega⟩, ⟨by (with_reducible repeat (first | apply Kd.R_alloc | apply Kd.R_drewN | apply Kd.R_drew)); exact HO_3.out⟩, ⟨bS HB⟩⟩
     ·rw [if_neg c6] at H
      exact absurd H (by simp)
    ·rw [if_neg c5] at H
     have c5b0 : decide (x4_1 < (l0.length : Int)) = false := decide_eq_false c5
     clear c5
     replace H := Option.bind_eq_some_iff.mp H
     obtain ⟨t118, A150, H⟩ := H
     replace H : (some t118) = some r := H
     have A15 := Aside0.mk A150
     clear A150
     obtain rfl := Option.some.inj H
     obtain ⟨Ao16, co16, eo16⟩ := Kd.R_slice HO_3.out
     subst eo16
     go_wp2_with (first | ((with_reducible refine gate_callee (f := 44) rfl ?_); refine goesL_ (some 36) rfl rfl Try.func44 (by kernel_rfl) rfl #[.slice Ao16 x3_1.length co16] rfl argS ?_; (with_reducible refine (topiaryref02_Trim.calls k1 _ _ x3_1 t118 _ ?side1 ?side2 A15.out).mono ?_); (case side1 => exact CS (Kd.R_reads' HO_3.out).2.2); (case side2 => exact (Kd.R_reads' HO_3.out).2.1); rintro e w17 ⟨v119, rfl, ho0, hb⟩; refine ⟨_, rfl, ?_⟩; have HO120 := Aside0.mk (Kd.R_lower (Kd.R_new' ho0 (Kd.R_lt (RS HO_3))) (below_size (bS HB))); replace HO_3 := Aside0.mk (Kd.R_elder' (RS HO_3) (Kd.R_base ho0) hb); replace HB := Aside0.mk (below_step (bS HB) hb); (try clear hb); (try clear ho0)))
     go_ret
     exact ⟨_, by first | rfl | (simp [errW_none, errW_some] <;> rfl) | (simp [*, errW_none, errW_some] <;> rfl), by (with_reducible repeat (first | apply Kd.R_alloc | apply Kd.R_drewN | apply Kd.R_drew)); exact Kd.R_mono HO120.out (fun _ hk => trivial), bS HB⟩
 ·rw [if_neg c2] at H
  exact absurd H (by simp)
end Go.Proofs.Ytnopjjilpgekfaa.PCa
namespace Go.Proofs.Ytnopjjilpgekfaa.PCa
open Go.RowKit Go.Proofs.YtnopjjilpgekfaaW.PrintWords Go.Proofs.YtnopjjilpgekfaaW.PrintLast Go.Proofs.YtnopjjilpgekfaaW.PrintMore
attribute [local go_sem] max2_int min2_int max_two min_two max_three min_three max_four min_four
set_option linter.unusedVariables false
set_option linter.unusedSimpArgs false
attribute [local go_sem high] eqA30
def topiaryref07_Find.l0 : Nat → List (S32) → Int → Int → Int → Option (Int)
 | 0, _, _, _, _ => none
 | k + 1, x0, x5, x162000, x162001 => if x5 < (x0.length : Int) then (if 0 ≤ x5 then (if (((rd_T32 x0 x5).f0.f0) == x162000 && (((rd_T32 x0 x5).f0.f1) == x162001)) = true then (some x5) else (topiaryref07_Find.l0 k x0 (wrap64 (x5 + 1)) x162000 x162001)) else (none)) else (some (-1))
def topiaryref07_Find.f (k : Nat) (l0 : List (S32)) (a1_0 : Int) (a1_1 : Int) : Option (Int) := topiaryref07_Find.l0 k l0 0 a1_0 a1_1
set_option maxHeartbeats 8000000 in
set_option maxRecDepth 100000 in
theorem topiaryref07_Find.calls (k : Nat) (A0 : Option Addr) (c0 : Nat) (l0 : List (S32)) (a1_0 : Int) (a1_1 : Int) (r : Int) (w : World) (hr0 : Kd.C k32 w A0 l0.length l0) (hc0 : l0.length ≤ c0) (h : topiaryref07_Find.f k l0 a1_0 a1_1 = some r) :
  Calls Try.prog 57 #[.slice A0 l0.length c0, .agg #[.int .i64 a1_0, .int .i64 a1_1]] w fun e w' => e = .returned (.int .i64 r) ∧ Below w.heap.size w w' := by
 have hu30 := Try.underlying30
 have HR0 := Aside0.mk hr0
 have HC0 := Aside0.mk hc0
 clear hr0 hc0
 have HB := Aside0.mk (Below.refl w.heap.size w)
 have H : (topiaryref07_Find.l0 k l0 0 a1_0 a1_1) = some r := h
 clear h
 have H' := Aside0.mk H
 clear H
 go_enter Try.func57, Try.ntmps57
 go_wp2_with (first | ((with_reducible refine gate_dst (N := 3) rfl ?_); refine boxE (N := 3) (cs := #[.int .i64 a1_0, .int .i64 a1_1]) (t := 30) ?_; intro gb161 hg w3 hbox hb; have BK161 := Aside0.mk (hbox); have GW161 := Aside0.mk ((by rw [hg]; exact (below_size (bS HB)) : w.heap.size ≤ gb161)); have GE161 := Aside0.mk ((by rw [hg]; exact (below_size (bS HB)) : w.heap.size ≤ gb161)); replace HB := Aside0.mk (below_step (bS HB) hb); clear hb hbox hg))
 repeat (go_quiet (first | ((with_reducible refine gate_dst (N := 3) rfl ?_); refine boxE (N := 3) (cs := #[.int .i64 a1_0, .int .i64 a1_1]) (t := 30) ?_; intro gb161 hg w3 hbox hb; have BK161 := Aside0.mk (hbox); have GW161 := Aside0.mk ((by rw [hg]; exact (below_size (bS HB)) : w.heap.size ≤ gb161)); have GE161 := Aside0.mk ((by rw [hg]; exact (below_size (bS HB)) : w.heap.size ≤ gb161)); replace HB := Aside0.mk (below_step (bS HB) hb); clear hb hbox hg)); try go_wp2_with (first | ((with_reducible refine gate_dst (N := 3) rfl ?_); refine boxE (N := 3) (cs := #[.int .i64 a1_0, .int .i64 a1_1]) (t := 30) ?_; intro gb161 hg w3 hbox hb; have BK161 := Aside0.mk (hbox); have GW161 := Aside0.mk ((by rw [hg]; exact (below_size (bS HB)) : w.heap.size ≤ gb161)); have GE161 := Aside0.mk ((by rw [hg]; exact (below_size (bS HB)) : w.heap.size ≤ gb161)); replace HB := Aside0.mk (below_step (bS HB) hb); clear hb hbox hg)))
 go_loopg [5] k (fun kq v5 w' => ∃ (x5_1 : Int), v5 = .int .i64 x5_1 ∧ Aside0 (topiaryref07_Find.l0 kq l0 x5_1 a1_0 a1_1 = some r) ∧ Aside0 (kq ≤ k) ∧ Aside0 (w'.heap[gb161]? = some (.cells #[.int .i64 a1_0, .int .i64 a1_1] 30 (0, 0))) ∧ Aside0 (Below w.heap.size w w'))
 case atStart => exact ⟨(0), (by first | rfl | (simp; done) | (simp [*]; done)), H', ⟨Nat.le_refl _⟩, ⟨by (with_reducible repeat (first | refine blk_drewN ?_ _ | refine blk_drew ?_ | refine blk_alloc ?_ _)); exact BK161.out⟩, ⟨bS1 HB GE161⟩⟩
 case round =>
  clear H'
  (try clear p2)
  obtain ⟨x5_1, rfl, HA, HK1, BK161, HB⟩ := hrel
  cases gk with
  | zero => exact absurd HA.out (by simp [topiaryref07_Find.l0])
  | succ k1 =>
   have H := HA.out
   clear HA
   simp only [topiaryref07_Find.l0] at H
   by_cases c4 : x5_1 < (l0.length : Int)
   ·rw [if_pos c4] at H
    have c4b0 : decide (x5_1 < (l0.length : Int)) = true := decide_eq_true c4
    clear c4
    by_cases c5 : 0 ≤ x5_1
    ·rw [if_pos c5] at H
     have c5b0 : decide (0 ≤ x5_1) = true := decide_eq_true c5
     clear c5
     by_cases c6 : (((rd_T32 l0 x5_1).f0.f0) == a1_0 && (((rd_T32 l0 x5_1).f0.f1) == a1_1)) = true
     ·rw [if_pos c6] at H
      have c6b0 : (((rd_T32 l0 x5_1).f0.f0) == a1_0 && (((rd_T32 l0 x5_1).f0.f1) == a1_1)) = true := c6
      (try (have c6b1 : decide (((rd_T32 l0 x5_1).f0.f0) = a1_0 && (((rd_T32 l0 x5_1).f0.f1) == a1_1)) = true := by simpa using c6))
      (try (have c6b2 : (((rd_T32 l0 x5_1).f0.f0) == a1_0 && (((rd_T32 l0 x5_1).f0.f1) == a1_1)) = true := by simpa using c6))
      clear c6
      obtain rfl := Option.some.inj H
      have p162 : 0 ≤ (x5_1 : Int) := of_decide_eq_true asmS
      have q162 : x5_1 < (l0.length : Int) := of_decide_eq_true asmS
      obtain ⟨ad162, A162_3, c162_3, e162, hx162_0, hx162_1, hx162_2, hx162_3, hx162_4, hx162_5, hx162_6, hx162_7, hx162_8, hx162_9, hx162_10, hx162_11, hx162_12, hl162_3, hi162_3⟩ := at_T32 HR0.out x5_1 p162 q162
      cases e162
      replace hx162_0 := (HB.out.cell (World.block_lt_of_cell? w _ hx162_0)).trans hx162_0
      replace hx162_1 := (HB.out.cell (World.block_lt_of_cell? w _ hx162_1)).trans hx162_1
      replace hx162_2 := (HB.out.cell (World.block_lt_of_cell? w _ hx162_2)).trans hx162_2
      replace hx162_3 := (HB.out.cell (World.block_lt_of_cell? w _ hx162_3)).trans hx162_3
      replace hx162_4 := (HB.out.cell (World.block_lt_of_cell? w _ hx162_4)).trans hx162_4
      replace hx162_5 := (HB.out.cell (World.block_lt_of_cell? w _ hx162_5)).trans hx162_5
      replace hx162_6 := (HB.out.cell (World.block_lt_of_cell? w _ hx162_6)).trans hx162_6
      replace hx162_7 := (HB.out.cell (World.block_lt_of_cell? w _ hx162_7)).trans hx162_7
      replace hx162_8 := (HB.out.cell (World.block_lt_of_cell? w _ hx162_8)).trans hx162_8
      replace hx162_9 := (HB.out.cell (World.block_lt_of_cell? w _ hx162_9)).trans hx162_9
      replace hx162_10 := (HB.out.cell (World.block_lt_of_cell? w _ hx162_10)).trans hx162_10
      replace hx162_11 := (HB.out.cell (World.block_lt_of_cell? w _ hx162_11)).trans hx162_11
      replace hx162_12 := (HB.out.cell (World.block_lt_of_cell? w _ hx162_12)).trans hx162_12
      have HR162_3 := Aside0.mk hi162_3
      have HC162_3 := Aside0.mk hl162_3
      clear hi162_3 hl162_3
      replace p162 := eq_true p162
      replace q162 := eq_true q162
      have hcz7_0 : wr.cell? ⟨gb161, 0, none⟩ = some (.int .i64 a1_0) := (blk_cell BK161.out 0).trans rfl
      have hcz7_1 : wr.cell? ⟨gb161, 1, none⟩ = some (.int .i64 a1_1) := (blk_cell BK161.out 1).trans rfl
      have hfz7_0 := blk_frozen BK161.out 0
      have hfz7_1 := blk_frozen BK161.out 1
      go_wp2
      repeat (go_quiet (fail); try go_wp2)
      go_ret
      exact ⟨by first | rfl | (simp [errW_none, errW_some] <;> rfl) | (simp [*, errW_none, errW_some] <;> rfl), bS1 HB GE161⟩
     ·rw [if_neg c6] at H
      have c6b0 : (((rd_T32 l0 x5_1).f0.f0) == a1_0 && (((rd_T32 l0 x5_1).f0.f1) == a1_1)) = false := by simpa using c6
      (try (have c6b1 : decide (((rd_T32 l0 x5_1).f0.f0) = a1_0 && (((rd_T32 l0 x5_1).f0.f1) == a1_1)) = false := by simpa using c6))
      (try (have c6b2 : (((rd_T32 l0 x5_1).f0.f0) == a1_0 && (((rd_T32 l0 x5_1).f0.f1) == a1_1)) = false := by simpa using c6))
      (try (have c6b3 : ¬ (((rd_T32 l0 x5_1).f0.f0) = a1_0 && (((rd_T32 l0 x5_1).f0.f1) == a1_1)) := by simpa using c6))
      clear c6
      have H' := Aside0.mk H
      clear H
      have p162 : 0 ≤ (x5_1 : Int) := of_decide_eq_true asmS
      have q162 : x5_1 < (l0.length : Int) := of_decide_eq_true asmS
      obtain ⟨ad162, A162_3, c162_3, e162, hx162_0, hx162_1, hx162_2, hx162_3, hx162_4, hx162_5, hx162_6, hx162_7, hx162_8, hx162_9, hx162_10, hx162_11, hx162_12, hl162_3, hi162_3⟩ := at_T32 HR0.out x5_1 p162 q162
      cases e162
      replace hx162_0 := (HB.out.cell (World.block_lt_of_cell? w _ hx162_0)).trans hx162_0
      replace hx162_1 := (HB.out.cell (World.block_lt_of_cell? w _ hx162_1)).trans hx162_1
      replace hx162_2 := (HB.out.cell (World.block_lt_of_cell? w _ hx162_2)).trans hx162_2
      replace hx162_3 := (HB.out.cell (World.block_lt_of_cell? w _ hx162_3)).trans hx162_3
      replace hx162_4 := (HB.out.cell (World.block_lt_of_cell? w _ hx162_4)).trans hx162_4
      replace hx162_5 := (HB.out.cell (World.block_lt_of_cell? w _ hx162_5)).trans hx162_5
      replace hx162_6 := (HB.out.cell (World.block_lt_of_cell? w _ hx162_6)).trans hx162_6
      replace hx162_7 := (HB.out.cell (World.block_lt_of_cell? w _ hx162_7)).trans hx162_7
      replace hx162_8 := (HB.out.cell (World.block_lt_of_cell? w _ hx162_8)).trans hx162_8
      replace hx162_9 := (HB.out.cell (World.block_lt_of_cell? w _ hx162_9)).trans hx162_9
      replace hx162_10 := (HB.out.cell (World.block_lt_of_cell? w _ hx162_10)).trans hx162_10
      replace hx162_11 := (HB.out.cell (World.block_lt_of_cell? w _ hx162_11)).trans hx162_11
      replace hx162_12 := (HB.out.cell (World.block_lt_of_cell? w _ hx162_12)).trans hx162_12
      have HR162_3 := Aside0.mk hi162_3
      have HC162_3 := Aside0.mk hl162_3
      clear hi162_3 hl162_3
      replace p162 := eq_true p162
      replace q162 := eq_true q162
      have hcz8_0 : wr.cell? ⟨gb161, 0, none⟩ = some (.int .i64 a1_0) := (blk_cell BK161.out 0).trans rfl
      have hcz8_1 : wr.cell? ⟨gb161, 1, none⟩ = some (.int .i64 a1_1) := (blk_cell BK161.out 1).trans rfl
      have hfz8_0 := blk_frozen BK161.out 0
      have hfz8_1 := blk_frozen BK161.out 1
      go_wp2
      repeat (go_quiet (fail); try go_wp2)
      go_roundg k1
      case measure => have := HK1.out; omega
      case rel => exact ⟨(wrap64 (x5_1 + 1)), (by first | rfl | (simp; done) | (simp [*]; done)), H', ⟨by have := HK1.out; omega⟩, ⟨by (with_reducible repeat (first | refine blk_drewN ?_ _ | refine blk_drew ?_ | refine blk_alloc ?_ _)); exact BK161.out⟩, ⟨bS1 HB GE161⟩⟩
    ·rw [if_neg c5] at H
     exact absurd H (by simp)
   ·rw [if_neg c4] at H
    have c4b0 : decide (x5_1 < (l0.length : Int)) = false := decide_eq_false c4
    clear c4
    obtain rfl := Option.some.inj H
    go_wp2
    repeat (go_quiet (fail); try go_wp2)
    go_ret
    exact ⟨by first | rfl | (simp [errW_none, errW_some] <;> rfl) | (simp [*, errW_none, errW_some] <;> rfl), bS1 HB GE161⟩
end Go.Proofs.Ytnopjjilpgekfaa.PCa
namespace Go.Proofs.Ytnopjjilpgekfaa.PCa
open Go.RowKit Go.Proofs.YtnopjjilpgekfaaW.PrintWords Go.Proofs.YtnopjjilpgekfaaW.PrintLast Go.Proofs.YtnopjjilpgekfaaW.PrintMore
attribute [local go_sem] max2_int min2_int max_two min_two max_three min_three max_four min_four
set_option linter.unusedVariables false
set_option linter.unusedSimpArgs false
def topiaryref07_Put.l0 : Nat → List (S32) → List (S32) → Bool → Int → Int → Int → Int → List Int → Int → Int → Int → Int → Int → Int → Int → ByteArray → ByteArray → Option ((List (S32)))
 | 0, _, _, _, _, _, _, _, _, _, _, _, _, _, _, _, _, _ => none
 | k + 1, x0, x5, x6, x7, x243000, x243001, x243002, x243003, x243004, x243005, x243006, x243007, x243008, x243009, x243010, x243011, x243012 => if x7 < (x0.length : Int) then (if x6 = true then (if 0 ≤ x7 then (if x5.length < 1034834473200 then (topiaryref07_Put.l0 k x0 (x5 ++ [(⟨(⟨(rd_T32 x0 x7).f0.f0, (rd_T32 x0 x7).f0.f1⟩ : S30), (rd_T32 x0 x7).f1, (rd_T32 x0 x7).f2, (rd_T32 x0 x7).f3, (⟨(rd_T32 x0 x7).f4.f0, (rd_T32 x0 x7).f4.f1⟩ : S30), (⟨(rd_T32 x0 x7).f5.f0, (rd_T32 x0 x7).f5.f1⟩ : S30), (⟨(rd_T32 x0 x7).f6.f0, (rd_T32 x0 x7).f6.f1⟩ : S30), (rd_T32 x0 x7).f7, (rd_T32 x0 x7).f8⟩ : S32)]) x6 (wrap64 (x7 + 1)) x243000 x243001 x243002 x243003 x243004 x243005 x243006 x243007 x243008 x243009 x243010 x243011 x243012) else (none)) else (none)) else (if 0 ≤ x7 then ((topiaryref01_Less.f x243000 x243001 ((rd_T32 x0 x7).f0.f0) ((rd_T32 x0 x7).f0.f1)).bind fun t269 => (if t269 = true then ((topiaryref05_Copy.f x243000 x243001 x243002 x243003 x243004 x243005 x243006 x243007 x243008 x243009 x243010 x243011 x243012).bind fun bt270 => (if x5.length < 1034834473200 then ((some (x5 ++ [(⟨(⟨bt270.1, bt270.2.1⟩ : S30), bt270.2.2.1, bt270.2.2.2.1, bt270.2.2.2.2.1, (⟨bt270.2.2.2.2.2.1, bt270.2.2.2.2.2.2.1⟩ : S30), (⟨bt270.2.2.2.2.2.2.2.1, bt270.2.2.2.2.2.2.2.2.1⟩ : S30), (⟨bt270.2.2.2.2.2.2.2.2.2.1, bt270.2.2.2.2.2.2.2.2.2.2.1⟩ : S30), bt270.2.2.2.2.2.2.2.2.2.2.2.1, bt270.2.2.2.2.2.2.2.2.2.2.2.2⟩ : S32)] : List (S32))).bind fun y285 => (if y285.length < 1034834473200 then (topiaryref07_Put.l0 k x0 (y285 ++ [(⟨(⟨(rd_T32 x0 x7).f0.f0, (rd_T32 x0 x7).f0.f1⟩ : S30), (rd_T32 x0 x7).f1, (rd_T32 x0 x7).f2, (rd_T32 x0 x7).f3, (⟨(rd_T32 x0 x7).f4.f0, (rd_T32 x0 x7).f4.f1⟩ : S30), (⟨(rd_T32 x0 x7).f5.f0, (rd_T32 x0 x7).f5.f1⟩ : S30), (⟨(rd_T32 x0 x7).f6.f0, (rd_T32 x0 x7).f6.f1⟩ : S30), (rd_T32 x0 x7).f7, (rd_T32 x0 x7).f8⟩ : S32)]) true (wrap64 (x7 + 1)) x243000 x243001 x243002 x243003 x243004 x243005 x243006 x243007 x243008 x243009 x243010 x243011 x243012) else (none))) else (none))) else (if x5.length < 1034834473200 then (topiaryref07_Put.l0 k x0 (x5 ++ [(⟨(⟨(rd_T32 x0 x7).f0.f0, (rd_T32 x0 x7).f0.f1⟩ : S30), (rd_T32 x0 x7).f1, (rd_T32 x0 x7).f2, (rd_T32 x0 x7).f3, (⟨(rd_T32 x0 x7).f4.f0, (rd_T32 x0 x7).f4.f1⟩ : S30), (⟨(rd_T32 x0 x7).f5.f0, (rd_T32 x0 x7).f5.f1⟩ : S30), (⟨(rd_T32 x0 x7).f6.f0, (rd_T32 x0 x7).f6.f1⟩ : S30), (rd_T32 x0 x7).f7, (rd_T32 x0 x7).f8⟩ : S32)]) x6 (wrap64 (x7 + 1)) x243000 x243001 x243002 x243003 x243004 x243005 x243006 x243007 x243008 x243009 x243010 x243011 x243012) else (none)))) else (none))) else (if x6 = true then (some x5) else ((topiaryref05_Copy.f x243000 x243001 x243002 x243003 x243004 x243005 x243006 x243007 x243008 x243009 x243010 x243011 x243012).bind fun bt246 => (if x5.length < 1034834473200 then (some (x5 ++ [(⟨(⟨bt246.1, bt246.2.1⟩ : S30), bt246.2.2.1, bt246.2.2.2.1, bt246.2.2.2.2.1, (⟨bt246.2.2.2.2.2.1, bt246.2.2.2.2.2.2.1⟩ : S30), (⟨bt246.2.2.2.2.2.2.2.1, bt246.2.2.2.2.2.2.2.2.1⟩ : S30), (⟨bt246.2.2.2.2.2.2.2.2.2.1, bt246.2.2.2.2.2.2.2.2.2.2.1⟩ : S30), bt246.2.2.2.2.2.2.2.2.2.2.2.1, bt246.2.2.2.2.2.2.2.2.2.2.2.2⟩ : S32)])) else (none))))
def topiaryref07_Put.f (k : Nat) (l0 : List (S32)) (a1_0 : Int) (a1_1 : Int) (a1_2 : Int) (l1_3 : List Int) (a1_4 : Int) (a1_5 : Int) (a1_6 : Int) (a1_7 : Int) (a1_8 : Int) (a1_9 : Int) (a1_10 : Int) (a1_11 : ByteArray) (a1_12 : ByteArray) : Option ((List (S32))) := topiaryref07_Put.l0 k l0 (([] : List (S32))) false 0 a1_0 a1_1 a1_2 l1_3 a1_4 a1_5 a1_6 a1_7 a1_8 a1_9 a1_10 a1_11 a1_12
def topiaryref07_Put.T6 : Bool × List (List Nat × List Nat) := (true, [([], []), ([0], [0]), ([1], [1]), ([2], [2]), ([3, 2], [2, 3]), ([2], [2]), ([2], [2]), ([5, 6, 2], [2, 5, 6]), ([7, 2], [2, 7]), ([8, 2], [2, 8]), ([4, 9, 2, 2], [2, 4, 9]), ([2, 10], [2, 10])])
def topiaryref07_Put.B6 : List Nat := [0, 1, 3, 7, 15, 7, 7, 103, 231, 487, 1023, 2047]
theorem topiaryref07_Put.tab6 : rtab .any (opsOf Try.f32 6) = topiaryref07_Put.T6 := by kernel_rfl
theorem topiaryref07_Put.bits6 : waitsOk topiaryref07_Put.T6.2 topiaryref07_Put.B6 = true := by kernel_rfl
set_option maxHeartbeats 8000000 in
set_option maxRecDepth 100000 in
theorem topiaryref07_Put.calls (k : Nat) (P0_ : Nat → Prop) (A0 : Option Addr) (c0 : Nat) (l0 : List (S32)) (a1_0 : Int) (a1_1 : Int) (a1_2 : Int) (A1_3 : Option Addr) (c1_3 : Nat) (l1_3 : List Int) (a1_4 : Int) (a1_5 : Int) (a1_6 : Int) (a1_7 : Int) (a1_8 : Int) (a1_9 : Int) (a1_10 : Int) (a1_11 : ByteArray) (a1_12 : ByteArray) (r : List (S32)) (w : World) (hs0 : Kd.V k32 32 w w.heap.size (fun k_ => P0_ k_) (.slice A0 l0.length c0) l0) (hr1_3 : Kd.C (Kd.int .i64) w A1_3 l1_3.length l1_3) (hc1_3 : l1_3.length ≤ c1_3) (h : topiaryref07_Put.f k l0 a1_0 a1_1 a1_2 l1_3 a1_4 a1_5 a1_6 a1_7 a1_8 a1_9 a1_10 a1_11 a1_12 = some r) :
  Calls Try.prog 32 #[.slice A0 l0.length c0, .agg #[.int .i64 a1_0, .int .i64 a1_1, .int .i64 a1_2, .slice A1_3 l1_3.length c1_3, .int .i64 a1_4, .int .i64 a1_5, .int .i64 a1_6, .int .i64 a1_7, .int .i64 a1_8, .int .i64 a1_9, .int .i64 a1_10, .string a1_11, .string a1_12]] w fun e w' => ∃ v0_ : Value, e = .returned (v0_) ∧ Kd.N k32 32 w' w.heap.size (fun k_ => (P0_ k_ ∨ w.heap.size ≤ k_)) v0_ r ∧ Below w.heap.size w w' := by
 have hu32 := Try.underlying32
 have hu30 := Try.underlying30
 have HO0 := Aside0.mk (show Kd.V k32 32 w w.heap.size (fun k_ => (P0_ k_ ∨ w.heap.size ≤ k_)) (.slice A0 l0.length c0) l0 from Kd.V_mono hs0 (fun k_ hk => .inl hk))
 have HR1_3 := Aside0.mk hr1_3
 have HC1_3 := Aside0.mk hc1_3
 clear hr1_3 hc1_3
 have HB := Aside0.mk (Below.refl w.heap.size w)
 have H : (topiaryref07_Put.l0 k l0 (([] : List (S32))) false 0 a1_0 a1_1 a1_2 l1_3 a1_4 a1_5 a1_6 a1_7 a1_8 a1_9 a1_10 a1_11 a1_12) = some r := h
 clear h
 obtain ⟨y243, hy243⟩ : ∃ y_ : List (S32), y_ = (([] : List (S32))) := ⟨_, rfl⟩
 replace H : (topiaryref07_Put.l0 k l0 y243 false 0 a1_0 a1_1 a1_2 l1_3 a1_4 a1_5 a1_6 a1_7 a1_8 a1_9 a1_10 a1_11 a1_12) = some r := by first | (rw [hy243]; with_reducible exact H) | (have H2_ := (Option.bind_some _ _).symm.trans H; rw [hy243]; with_reducible exact H2_) | (have H2_ := (Option.bind_some _ _).symm.trans H; with_reducible exact H2_) | with_reducible exact H | (rw [hy243]; exact H) | exact H
 have Ny243 := Aside0.mk hy243
 clear hy243
 have H' := Aside0.mk H
 clear H
 go_enter Try.func32, Try.ntmps32
 go_wp2_with (first | ((with_reducible refine gate_dst (N := 3) rfl ?_); refine boxE (N := 3) (cs := #[.int .i64 a1_0, .int .i64 a1_1, .int .i64 a1_2, .slice A1_3 l1_3.length c1_3, .int .i64 a1_4, .int .i64 a1_5, .int .i64 a1_6, .int .i64 a1_7, .int .i64 a1_8, .int .i64 a1_9, .int .i64 a1_10, .string a1_11, .string a1_12]) (t := 32) ?_; intro gb242 hg w3 hbox hb; have BK242 := Aside0.mk (hbox); have GW242 := Aside0.mk ((by rw [hg]; exact (below_size (bS HB)) : w.heap.size ≤ gb242)); have GE242 := Aside0.mk ((by rw [hg]; exact (below_size (bS HB)) : w.heap.size ≤ gb242)); replace HO0 := Aside0.mk (Kd.V_below (Kd.V_elderB (VS HO0) gb242 (Nat.le_of_eq hg.symm)) hb); replace HB := Aside0.mk (below_step (bS HB) hb); clear hb hbox hg) | ((with_reducible refine gate_dst (N := 8) rfl ?_); refine Kd.N_lit k32 _ 32 ?hg (N' := 8) ?hd (xs := ([] : List (S32))) (inner := []) (ok := (fun k_ => (P0_ k_ ∨ w.heap.size ≤ k_) ∧ k_ ≠ gb242)) (okp := (fun k_ => (P0_ k_ ∨ w.heap.size ≤ k_) ∧ k_ ≠ gb242)) ?hr ?hp (fun _ hk => hk) ((show ∀ k_, w3.heap.size ≤ k_ → (fun k_ => (P0_ k_ ∨ w.heap.size ≤ k_) ∧ k_ ≠ gb242) k_ from fun k_ hk => ⟨(.inr (Nat.le_trans (below_size (bS1 HB GE242)) hk)), Kd.freshB (g := gb242) (o := .cells #[.int .i64 a1_0, .int .i64 a1_1, .int .i64 a1_2, .slice A1_3 l1_3.length c1_3, .int .i64 a1_4, .int .i64 a1_5, .int .i64 a1_6, .int .i64 a1_7, .int .i64 a1_8, .int .i64 a1_9, .int .i64 a1_10, .string a1_11, .string a1_12] 32 (0, 0)) (blkS BK242) k_ hk⟩) _ (Nat.le_refl _)) (Below.refl _ _) (Nat.le_refl _) (by simp) ?_; (case hd => rfl); (case hg => rfl); (case hr => first | (go_simp; done) | (go_simp; rfl)); (case hp => exact (Reps.none _ _)); intro v244 w4 ho5 hb hg_ hnew_; clear hg_ hnew_; (first | rw [← Ny243.out] at ho5 | (simp only [Int.reduceToNat] at ho5; rw [← Ny243.out] at ho5)); have HO245 := Aside0.mk (Kd.N_lower ho5 (below_size (bS1 HB GE242))); replace HO0 := Aside0.mk (Kd.V_elder' (VS HO0) (Kd.N_base ho5) hb); replace BK242 := Aside0.mk (blk_below (blkS BK242) hb); replace HB := Aside0.mk (below_step (bS1 HB GE242) hb); clear hb ho5))
 go_loopg [5, 6, 7] k (fun kq v5 v6 v7 w' => ∃ (x5_1 : List (S32)) (x6_1 : Bool) (x7_1 : Int), v6 = .bool x6_1 ∧ v7 = .int .i64 x7_1 ∧ Aside0 (topiaryref07_Put.l0 kq l0 x5_1 x6_1 x7_1 a1_0 a1_1 a1_2 l1_3 a1_4 a1_5 a1_6 a1_7 a1_8 a1_9 a1_10 a1_11 a1_12 = some r) ∧ Aside0 (kq ≤ k) ∧ Aside0 (Kd.V k32 32 w' w.heap.size (fun k_ => (P0_ k_ ∨ w.heap.size ≤ k_) ∧ some k_ ≠ (v5 : Value).ownBlock ∧ k_ ≠ gb242) (.slice A0 l0.length c0) l0) ∧ Aside0 (Kd.N k32 32 w' w.heap.size (fun k_ => (P0_ k_ ∨ w.heap.size ≤ k_) ∧ k_ ≠ gb242) v5 x5_1) ∧ Aside0 (w'.heap[gb242]? = some (.cells #[.int .i64 a1_0, .int .i64 a1_1, .int .i64 a1_2, (.slice A1_3 l1_3.length c1_3), .int .i64 a1_4, .int .i64 a1_5, .int .i64 a1_6, .int .i64 a1_7, .int .i64 a1_8, .int .i64 a1_9, .int .i64 a1_10, .string a1_11, .string a1_12] 32 (0, 0))) ∧ Aside0 (Below w.heap.size w w'))
 case atStart => exact ⟨(y243), (false), (0), (by first | rfl | (simp; done) | (simp [*]; done)), (by first | rfl | (simp; done) | (simp [*]; done)), H', ⟨Nat.le_refl _⟩, ⟨by (with_reducible repeat (first | apply Kd.V_alloc | apply Kd.V_drewN | apply Kd.V_drew)); exact Kd.V_mono HO0.out (fun _ hk => ⟨hk.1.1, ⟨hk.2, hk.1.2⟩⟩)⟩, ⟨by (with_reducible repeat (first | apply Kd.N_alloc | apply Kd.N_drewN | apply Kd.N_drew)); exact HO245.out⟩, ⟨by (with_reducible repeat (first | refine blk_drewN ?_ _ | refine blk_drew ?_ | refine blk_alloc ?_ _)); exact BK242.out⟩, ⟨bS1 HB GE242⟩⟩
 case round =>
  clear H'
  (try clear c1); (try clear p2); (try clear c3)
  obtain ⟨x5_1, x6_1, x7_1, rfl, rfl, HA, HK1, HO_0, HO_5, BK242, HB⟩ := hrel
  cases gk with
  | zero => exact absurd HA.out (by simp [topiaryref07_Put.l0])
  | succ k1 =>
   have H := HA.out
   clear HA
   simp only [topiaryref07_Put.l0] at H
   by_cases c6 : x7_1 < (l0.length : Int)
   ·rw [if_pos c6] at H
    have c6b0 : decide (x7_1 < (l0.length : Int)) = true := decide_eq_true c6
    clear c6
    by_cases c7 : x6_1 = true
    ·subst c7
     have H1 : (if 0 ≤ x7_1 then (if x5_1.length < 1034834473200 then (topiaryref07_Put.l0 k1 l0 (x5_1 ++ [(⟨(⟨(rd_T32 l0 x7_1).f0.f0, (rd_T32 l0 x7_1).f0.f1⟩ : S30), (rd_T32 l0 x7_1).f1, (rd_T32 l0 x7_1).f2, (rd_T32 l0 x7_1).f3, (⟨(rd_T32 l0 x7_1).f4.f0, (rd_T32 l0 x7_1).f4.f1⟩ : S30), (⟨(rd_T32 l0 x7_1).f5.f0, (rd_T32 l0 x7_1).f5.f1⟩ : S30), (⟨(rd_T32 l0 x7_1).f6.f0, (rd_T32 l0 x7_1).f6.f1⟩ : S30), (rd_T32 l0 x7_1).f7, (rd_T32 l0 x7_1).f8⟩ : S32)]) true (wrap64 (x7_1 + 1)) a1_0 a1_1 a1_2 l1_3 a1_4 a1_5 a1_6 a1_7 a1_8 a1_9 a1_10 a1_11 a1_12) else (none)) else (none)) = some r := by rw [if_pos rfl] at H; exact H
     clear H
     have H := H1
     clear H1
     by_cases c8 : 0 ≤ x7_1
     ·rw [if_pos c8] at H
      have c8b0 : decide (0 ≤ x7_1) = true := decide_eq_true c8
      clear c8
      by_cases c9 : x5_1.length < 1034834473200
      ·rw [if_pos c9] at H
       have LMc9 := Aside0.mk c9
       clear c9
       obtain ⟨y265, hy265⟩ : ∃ y_ : List (S32), y_ = (x5_1 ++ [(⟨(⟨(rd_T32 l0 x7_1).f0.f0, (rd_T32 l0 x7_1).f0.f1⟩ : S30), (rd_T32 l0 x7_1).f1, (rd_T32 l0 x7_1).f2, (rd_T32 l0 x7_1).f3, (⟨(rd_T32 l0 x7_1).f4.f0, (rd_T32 l0 x7_1).f4.f1⟩ : S30), (⟨(rd_T32 l0 x7_1).f5.f0, (rd_T32 l0 x7_1).f5.f1⟩ : S30), (⟨(rd_T32 l0 x7_1).f6.f0, (rd_T32 l0 x7_1).f6.f1⟩ : S30), (rd_T32 l0 x7_1).f7, (rd_T32 l0 x7_1).f8⟩ : S32)]) := ⟨_, rfl⟩
       replace H : (topiaryref07_Put.l0 k1 l0 y265 true (wrap64 (x7_1 + 1)) a1_0 a1_1 a1_2 l1_3 a1_4 a1_5 a1_6 a1_7 a1_8 a1_9 a1_10 a1_11 a1_12) = some r := by first | (rw [hy265]; with_reducible exact H) | (have H2_ := (Option.bind_some _ _).symm.trans H; rw [hy265]; with_reducible exact H2_) | (have H2_ := (Option.bind_some _ _).symm.trans H; with_reducible exact H2_) | with_reducible exact H | (rw [hy265]; exact H) | exact H
       have Ny265 := Aside0.mk hy265
       clear hy265
       have H' := Aside0.mk H
       clear H
       try go_wp2
       replace HO_0 := Aside0.mk (Kd.V_drew HO_0.out)
       replace HO_5 := Aside0.mk (Kd.N_drew HO_5.out)
       replace BK242 := Aside0.mk (blk_drew BK242.out)
       replace HB := Aside0.mk (below_drew1 HB.out)
       refine start_ (n := 12) (S := fun w' => True) (ds := []) #[false, false, false, false, false, false, false, false, false, false, false, false] (by kernel_rfl) rfl rfl trivial (fun hHeld => ?_); refine with_tabW topiaryref07_Put.tab6 topiaryref07_Put.bits6 (fun HT_ HW_ => ?_)
       generalize wr.drew = w10 at HO_0 HO_5 BK242 HB hHeld ⊢
       refine pureT (i := 0) (N := some 15) HT_ ?_
       refine pureT (i := 1) (N := some 16) HT_ ?_
       refine pureT (i := 2) (N := some 17) HT_ ?_
       refine pureV (i := 3) (N := some 18) HT_ ?_
       refine pureV (i := 4) (N := some 19) HT_ ?_
       refine pureV (i := 5) (N := some 20) HT_ ?_
       refine pureV (i := 6) (N := some 21) HT_ ?_
       refine pureV (i := 7) (N := some 22) HT_ ?_
       refine pureV (i := 8) (N := some 23) HT_ ?_
       refine pureV (i := 9) (N := some 24) HT_ ?_
       refine pureV (i := 10) (N := some 25) HT_ ?_
       refine pureT (i := 11) (N := some 26) HT_ ?_
       refine done_ (done_of HT_.out (by kernel_rfl)) ?_
       have p264 : 0 ≤ (x7_1 : Int) := of_decide_eq_true asmS
       have q264 : x7_1 < (l0.length : Int) := of_decide_eq_true asmS
       obtain ⟨ad264, A264_3, c264_3, e264, hx264_0, hx264_1, hx264_2, hx264_3, hx264_4, hx264_5, hx264_6, hx264_7, hx264_8, hx264_9, hx264_10, hx264_11, hx264_12, hl264_3, hi264_3⟩ := at_T32 (Kd.V_reads' HO_0.out).2.2 x7_1 p264 q264
       cases e264
       obtain ⟨ce264, hce264, hMe264, hcc264⟩ := Kd.V_get HO_0.out z32 x7_1 p264 (by first | exact q264 | exact of_decide_eq_true asmS | (have e_ := (Kd.V_reads' HO_0.out).1; omega))
       obtain ⟨ua264_3, uc264_3, rfl, ul264_3, ge264_3⟩ := k32_openF hMe264
       have hv264_3 := hcc264 3 _ rfl
       rw [add_field _ _ 3 (by omega)] at hv264_3
       replace hv264_3 := Option.some.inj (hv264_3.symm.trans hx264_3)
       injection hv264_3 with hva_ hvn_ hvc_
       rw [hva_] at ge264_3
       rw [hvc_] at ul264_3
       have HL264_3 := Aside0.mk (show Kd.V (Kd.int .i64) 3 _ w.heap.size _ _ ((rd_T32 l0 x7_1).f2) from Kd.V_mk ul264_3 ge264_3)
       clear hva_ hvn_ hvc_ ge264_3 ul264_3
       clear hcc264 hce264
       have HR264_3 := Aside0.mk hi264_3
       have HC264_3 := Aside0.mk hl264_3
       clear hi264_3 hl264_3
       replace p264 := eq_true p264
       replace q264 := eq_true q264
       try go_wp2_with (first | ((with_reducible refine gate_builtin (b := .append) (xs := #[.tmp 32, .tmp 37]) rfl ?_); at_builtin; refine Kd.N_append k32 (w0 := w) w.heap.size rfl (.tmp 32) (.tmp 37) 22 32 (.agg #[(.int .i64 0), (.int .i64 0), (.int .i64 0), (.slice none 0 0), (.int .i64 0), (.int .i64 0), (.int .i64 0), (.int .i64 0), (.int .i64 0), (.int .i64 0), (.int .i64 0), (.string ⟨#[]⟩), (.string ⟨#[]⟩)]) 136 rfl Try.underlying22 info32 rfl (by decide) (by omega) u5 x5_1 (⟨(⟨(rd_T32 l0 x7_1).f0.f0, (rd_T32 l0 x7_1).f0.f1⟩ : S30), (rd_T32 l0 x7_1).f1, (rd_T32 l0 x7_1).f2, (rd_T32 l0 x7_1).f3, (⟨(rd_T32 l0 x7_1).f4.f0, (rd_T32 l0 x7_1).f4.f1⟩ : S30), (⟨(rd_T32 l0 x7_1).f5.f0, (rd_T32 l0 x7_1).f5.f1⟩ : S30), (⟨(rd_T32 l0 x7_1).f6.f0, (rd_T32 l0 x7_1).f6.f1⟩ : S30), (rd_T32 l0 x7_1).f7, (rd_T32 l0 x7_1).f8⟩ : S32) [.int .i64 ((rd_T32 l0 x7_1).f0.f0), .int .i64 ((rd_T32 l0 x7_1).f0.f1), .int .i64 ((rd_T32 l0 x7_1).f1), .slice A264_3 ((rd_T32 l0 x7_1).f2).length c264_3, .int .i64 ((rd_T32 l0 x7_1).f3), .int .i64 ((rd_T32 l0 x7_1).f4.f0), .int .i64 ((rd_T32 l0 x7_1).f4.f1), .int .i64 ((rd_T32 l0 x7_1).f5.f0), .int .i64 ((rd_T32 l0 x7_1).f5.f1), .int .i64 ((rd_T32 l0 x7_1).f6.f0), .int .i64 ((rd_T32 l0 x7_1).f6.f1), .string ((rd_T32 l0 x7_1).f7), .string ((rd_T32 l0 x7_1).f8)] (fun k_ => (P0_ k_ ∨ w.heap.size ≤ k_) ∧ k_ ≠ gb242) (fun k_ => ((fun k_ => (P0_ k_ ∨ w.heap.size ≤ k_) ∧ k_ ≠ gb242)) k_ ∧ some k_ ≠ (u5 : Value).ownBlock) rfl rfl ?aP (fun _ hk => hk) ?aF ?aO ?aB ?aS ?aL ?_; (case aP => exact (k32_mkF _ _ (⟨(⟨(rd_T32 l0 x7_1).f0.f0, (rd_T32 l0 x7_1).f0.f1⟩ : S30), (rd_T32 l0 x7_1).f1, (rd_T32 l0 x7_1).f2, (rd_T32 l0 x7_1).f3, (⟨(rd_T32 l0 x7_1).f4.f0, (rd_T32 l0 x7_1).f4.f1⟩ : S30), (⟨(rd_T32 l0 x7_1).f5.f0, (rd_T32 l0 x7_1).f5.f1⟩ : S30), (⟨(rd_T32 l0 x7_1).f6.f0, (rd_T32 l0 x7_1).f6.f1⟩ : S30), (rd_T32 l0 x7_1).f7, (rd_T32 l0 x7_1).f8⟩ : S32) (Kd.V_reads' (Kd.V_mono (ok' := (fun k_ => ((fun k_ => (P0_ k_ ∨ w.heap.size ≤ k_) ∧ k_ ≠ gb242)) k_ ∧ some k_ ≠ (u5 : Value).ownBlock)) (HL264_3.out) (fun k_ hk => ⟨⟨hk.1, hk.2.2⟩, hk.2.1⟩))).2.1 (Kd.V_F (Kd.V_mono (ok' := (fun k_ => ((fun k_ => (P0_ k_ ∨ w.heap.size ≤ k_) ∧ k_ ≠ gb242)) k_ ∧ some k_ ≠ (u5 : Value).ownBlock)) (HL264_3.out) (fun k_ hk => ⟨⟨hk.1, hk.2.2⟩, hk.2.1⟩))))); (case aB => exact (bS1 HB GE242)); (case aF => exact (fun k_ hk => ⟨(.inr (Nat.le_trans (below_size (bS1 HB GE242)) hk)), Kd.freshB (g := gb242) (o := .cells #[.int .i64 a1_0, .int .i64 a1_1, .int .i64 a1_2, .slice A1_3 l1_3.length c1_3, .int .i64 a1_4, .int .i64 a1_5, .int .i64 a1_6, .int .i64 a1_7, .int .i64 a1_8, .int .i64 a1_9, .int .i64 a1_10, .string a1_11, .string a1_12] 32 (0, 0)) (blkS BK242) k_ hk⟩)); (case aO => exact (NS HO_5)); (case aS => exact (below_size (bS1 HB GE242))); (case aL => have := LMc9.out; omega); intro v266 w11 ho hb hg hat; rw [← Ny265.out] at ho; have n0_ := Aside0.mk (Kd.V_afterv (ok := (fun k_ => (P0_ k_ ∨ w.heap.size ≤ k_) ∧ k_ ≠ gb242)) (by (with_reducible repeat (first | apply Kd.V_alloc | apply Kd.V_drewN | apply Kd.V_drew)); exact Kd.V_mono HO_0.out (fun _ hk => ⟨⟨hk.1, hk.2.2⟩, hk.2.1⟩)) hg hat); have n1_ := Aside0.mk (blk_grown (blkS BK242) hg (Kd.N_away HO_5.out (fun _ hk => hk.2))); have n2_ := Aside0.mk (Kd.V_afterv (ok := (fun k_ => (P0_ k_ ∨ w.heap.size ≤ k_) ∧ k_ ≠ gb242)) (by (with_reducible repeat (first | apply Kd.V_alloc | apply Kd.V_drewN | apply Kd.V_drew)); exact Kd.V_mono HL264_3.out (fun _ hk => ⟨⟨hk.1, hk.2.2⟩, hk.2.1⟩)) hg hat); have n3_ := Aside0.mk (hb); have n4_ := Aside0.mk (ho); clear HO_0; clear BK242; clear HL264_3; clear HB; clear HO_5; have HO_0 := n0_; have BK242 := n1_; have HL264_3 := n2_; have HB := n3_; have HO267 := n4_; clear n0_ n1_ n2_ n3_ n4_; clear ho hb hg hat))
       go_roundg k1
       case measure => have := HK1.out; omega
       case rel => exact ⟨(y265), (true), (wrap64 (x7_1 + 1)), (by first | rfl | (simp; done) | (simp [*]; done)), (by first | rfl | (simp; done) | (simp [*]; done)), H', ⟨by have := HK1.out; omega⟩, ⟨by (with_reducible repeat (first | apply Kd.V_alloc | apply Kd.V_drewN | apply Kd.V_drew)); exact Kd.V_mono HO_0.out (fun _ hk => ⟨hk.1.1, ⟨hk.2, hk.1.2⟩⟩)⟩, ⟨by (with_reducible repeat (first | apply Kd.N_alloc | apply Kd.N_drewN | apply Kd.N_drew)); exact HO267.out⟩, ⟨by (with_reducible repeat (first | refine blk_drewN ?_ _ | refine blk_drew ?_ | refine blk_alloc ?_ _)); exact BK242.out⟩, ⟨bS1 HB GE242⟩⟩
      ·rw [if_neg c9] at H
       exact absurd H (by simp)
     ·rw [if_neg c8] at H
      exact absurd H (by simp)
    ·replace c7 := Bool.eq_false_iff.mpr c7
     subst c7
     have H1 : (if 0 ≤ x7_1 then ((topiaryref01_Less.f a1_0 a1_1 ((rd_T32 l0 x7_1).f0.f0) ((rd_T32 l0 x7_1).f0.f1)).bind fun t269 => (if t269 = true then ((topiaryref05_Copy.f a1_0 a1_1 a1_2 l1_3 a1_4 a1_5 a1_6 a1_7 a1_8 a1_9 a1_10 a1_11 a1_12).bind fun bt270 => (if x5_1.length < 1034834473200 then ((some (x5_1 ++ [(⟨(⟨bt270.1, bt270.2.1⟩ : S30), bt270.2.2.1, bt270.2.2.2.1, bt270.2.2.2.2.1, (⟨bt270.2.2.2.2.2.1, bt270.2.2.2.2.2.2.1⟩ : S30), (⟨bt270.2.2.2.2.2.2.2.1, bt270.2.2.2.2.2.2.2.2.1⟩ : S30), (⟨bt270.2.2.2.2.2.2.2.2.2.1, bt270.2.2.2.2.2.2.2.2.2.2.1⟩ : S30), bt270.2.2.2.2.2.2.2.2.2.2.2.1, bt270.2.2.2.2.2.2.2.2.2.2.2.2⟩ : S32)] : List (S32))).bind fun y285 => (if y285.length < 1034834473200 then (topiaryref07_Put.l0 k1 l0 (y285 ++ [(⟨(⟨(rd_T32 l0 x7_1).f0.f0, (rd_T32 l0 x7_1).f0.f1⟩ : S30), (rd_T32 l0 x7_1).f1, (rd_T32 l0 x7_1).f2, (rd_T32 l0 x7_1).f3, (⟨(rd_T32 l0 x7_1).f4.f0, (rd_T32 l0 x7_1).f4.f1⟩ : S30), (⟨(rd_T32 l0 x7_1).f5.f0, (rd_T32 l0 x7_1).f5.f1⟩ : S30), (⟨(rd_T32 l0 x7_1).f6.f0, (rd_T32 l0 x7_1).f6.f1⟩ : S30), (rd_T32 l0 x7_1).f7, (rd_T32 l0 x7_1).f8⟩ : S32)]) true (wrap64 (x7_1 + 1)) a1_0 a1_1 a1_2 l1_3 a1_4 a1_5 a1_6 a1_7 a1_8 a1_9 a1_10 a1_11 a1_12) else (none))) else (none))) else (if x5_1.length < 1034834473200 then (topiaryref07_Put.l0 k1 l0 (x5_1 ++ [(⟨(⟨(rd_T32 l0 x7_1).f0.f0, (rd_T32 l0 x7_1).f0.f1⟩ : S30), (rd_T32 l0 x7_1).f1, (rd_T32 l0 x7_1).f2, (rd_T32 l0 x7_1).f3, (⟨(rd_T32 l0 x7_1).f4.f0, (rd_T32 l0 x7_1).f4.f1⟩ : S30), (⟨(rd_T32 l0 x7_1).f5.f0, (rd_T32 l0 x7_1).f5.f1⟩ : S30), (⟨(rd_T32 l0 x7_1).f6.f0, (rd_T32 l0 x7_1).f6.f1⟩ : S30), (rd_T32 l0 x7_1).f7, (rd_T32 l0 x7_1).f8⟩ : S32)]) false (wrap64 (x7_1 + 1)) a1_0 a1_1 a1_2 l1_3 a1_4 a1_5 a1_6 a1_7 a1_8 a1_9 a1_10 a1_11 a1_12) else (none)))) else (none)) = some r := by rw [if_neg (show ¬ (false = true) by decide)] at H; exact H
     clear H
     have H := H1
     clear H1
     by_cases c12 : 0 ≤ x7_1
     ·rw [if_pos c12] at H
      have c12b0 : decide (0 ≤ x7_1) = true := decide_eq_true c12
      clear c12
      replace H := Option.bind_eq_some_iff.mp H
      obtain ⟨t269, A130, H⟩ := H
      replace H : (if t269 = true then ((topiaryref05_Copy.f a1_0 a1_1 a1_2 l1_3 a1_4 a1_5 a1_6 a1_7 a1_8 a1_9 a1_10 a1_11 a1_12).bind fun bt270 => (if x5_1.length < 1034834473200 then ((some (x5_1 ++ [(⟨(⟨bt270.1, bt270.2.1⟩ : S30), bt270.2.2.1, bt270.2.2.2.1, bt270.2.2.2.2.1, (⟨bt270.2.2.2.2.2.1, bt270.2.2.2.2.2.2.1⟩ : S30), (⟨bt270.2.2.2.2.2.2.2.1, bt270.2.2.2.2.2.2.2.2.1⟩ : S30), (⟨bt270.2.2.2.2.2.2.2.2.2.1, bt270.2.2.2.2.2.2.2.2.2.2.1⟩ : S30), bt270.2.2.2.2.2.2.2.2.2.2.2.1, bt270.2.2.2.2.2.2.2.2.2.2.2.2⟩ : S32)] : List (S32))).bind fun y285 => (if y285.length < 1034834473200 then (topiaryref07_Put.l0 k1 l0 (y285 ++ [(⟨(⟨(rd_T32 l0 x7_1).f0.f0, (rd_T32 l0 x7_1).f0.f1⟩ : S30), (rd_T32 l0 x7_1).f1, (rd_T32 l0 x7_1).f2, (rd_T32 l0 x7_1).f3, (⟨(rd_T32 l0 x7_1).f4.f0, (rd_T32 l0 x7_1).f4.f1⟩ : S30), (⟨(rd_T32 l0 x7_1).f5.f0, (rd_T32 l0 x7_1).f5.f1⟩ : S30), (⟨(rd_T32 l0 x7_1).f6.f0, (rd_T32 l0 x7_1).f6.f1⟩ : S30), (rd_T32 l0 x7_1).f7, (rd_T32 l0 x7_1).f8⟩ : S32)]) true (wrap64 (x7_1 + 1)) a1_0 a1_1 a1_2 l1_3 a1_4 a1_5 a1_6 a1_7 a1_8 a1_9 a1_10 a1_11 a1_12) else (none))) else (none))) else (if x5_1.length < 1034834473200 then (topiaryref07_Put.l0 k1 l0 (x5_1 ++ [(⟨(⟨(rd_T32 l0 x7_1).f0.f0, (rd_T32 l0 x7_1).f0.f1⟩ : S30), (rd_T32 l0 x7_1).f1, (rd_T32 l0 x7_1).f2, (rd_T32 l0 x7_1).f3, (⟨(rd_T32 l0 x7_1).f4.f0, (rd_T32 l0 x7_1).f4.f1⟩ : S30), (⟨(rd_T32 l0 x7_1).f5.f0, (rd_T32 l0 x7_1).f5.f1⟩ : S30), (⟨(rd_T32 l0 x7_1).f6.f0, (rd_T32 l0 x7_1).f6.f1⟩ : S30), (rd_T32 l0 x7_1).f7, (rd_T32 l0 x7_1).f8⟩ : S32)]) false (wrap64 (x7_1 + 1)) a1_0 a1_1 a1_2 l1_3 a1_4 a1_5 a1_6 a1_7 a1_8 a1_9 a1_10 a1_11 a1_12) else (none))) = some r := H
      have A13 := Aside0.mk A130
      clear A130
      by_cases c14 : t269 = true
      ·subst c14
       have H1 : ((topiaryref05_Copy.f a1_0 a1_1 a1_2 l1_3 a1_4 a1_5 a1_6 a1_7 a1_8 a1_9 a1_10 a1_11 a1_12).bind fun bt270 => (if x5_1.length < 1034834473200 then ((some (x5_1 ++ [(⟨(⟨bt270.1, bt270.2.1⟩ : S30), bt270.2.2.1, bt270.2.2.2.1, bt270.2.2.2.2.1, (⟨bt270.2.2.2.2.2.1, bt270.2.2.2.2.2.2.1⟩ : S30), (⟨bt270.2.2.2.2.2.2.2.1, bt270.2.2.2.2.2.2.2.2.1⟩ : S30), (⟨bt270.2.2.2.2.2.2.2.2.2.1, bt270.2.2.2.2.2.2.2.2.2.2.1⟩ : S30), bt270.2.2.2.2.2.2.2.2.2.2.2.1, bt270.2.2.2.2.2.2.2.2.2.2.2.2⟩ : S32)] : List (S32))).bind fun y285 => (if y285.length < 1034834473200 then (topiaryref07_Put.l0 k1 l0 (y285 ++ [(⟨(⟨(rd_T32 l0 x7_1).f0.f0, (rd_T32 l0 x7_1).f0.f1⟩ : S30), (rd_T32 l0 x7_1).f1, (rd_T32 l0 x7_1).f2, (rd_T32 l0 x7_1).f3, (⟨(rd_T32 l0 x7_1).f4.f0, (rd_T32 l0 x7_1).f4.f1⟩ : S30), (⟨(rd_T32 l0 x7_1).f5.f0, (rd_T32 l0 x7_1).f5.f1⟩ : S30), (⟨(rd_T32 l0 x7_1).f6.f0, (rd_T32 l0 x7_1).f6.f1⟩ : S30), (rd_T32 l0 x7_1).f7, (rd_T32 l0 x7_1).f8⟩ : S32)]) true (wrap64 (x7_1 + 1)) a1_0 a1_1 a1_2 l1_3 a1_4 a1_5 a1_6 a1_7 a1_8 a1_9 a1_10 a1_11 a1_12) else (none))) else (none))) = some r := by rw [if_pos rfl] at H; exact H
       clear H
       have H := H1
       clear H1
       replace H := Option.bind_eq_some_iff.mp H
       obtain ⟨⟨t270, t271, t272, t273, t276, t277, t278, t279, t280, t281, t282, t283, t284⟩, A150, H⟩ := H
       replace H : (if x5_1.length < 1034834473200 then ((some (x5_1 ++ [(⟨(⟨t270, t271⟩ : S30), t272, t273, t276, (⟨t277, t278⟩ : S30), (⟨t279, t280⟩ : S30), (⟨t281, t282⟩ : S30), t283, t284⟩ : S32)] : List (S32))).bind fun y285 => (if y285.length < 1034834473200 then (topiaryref07_Put.l0 k1 l0 (y285 ++ [(⟨(⟨(rd_T32 l0 x7_1).f0.f0, (rd_T32 l0 x7_1).f0.f1⟩ : S30), (rd_T32 l0 x7_1).f1, (rd_T32 l0 x7_1).f2, (rd_T32 l0 x7_1).f3, (⟨(rd_T32 l0 x7_1).f4.f0, (rd_T32 l0 x7_1).f4.f1⟩ : S30), (⟨(rd_T32 l0 x7_1).f5.f0, (rd_T32 l0 x7_1).f5.f1⟩ : S30), (⟨(rd_T32 l0 x7_1).f6.f0, (rd_T32 l0 x7_1).f6.f1⟩ : S30), (rd_T32 l0 x7_1).f7, (rd_T32 l0 x7_1).f8⟩ : S32)]) true (wrap64 (x7_1 + 1)) a1_0 a1_1 a1_2 l1_3 a1_4 a1_5 a1_6 a1_7 a1_8 a1_9 a1_10 a1_11 a1_12) else (none))) else (none)) = some r := H
       have A15 := Aside0.mk A150
       clear A150
       by_cases c16 : x5_1.length < 1034834473200
       ·rw [if_pos c16] at H
        have LMc16 := Aside0.mk c16
        clear c16
        obtain ⟨y285, hy285⟩ : ∃ y_ : List (S32), y_ = (x5_1 ++ [(⟨(⟨t270, t271⟩ : S30), t272, t273, t276, (⟨t277, t278⟩ : S30), (⟨t279, t280⟩ : S30), (⟨t281, t282⟩ : S30), t283, t284⟩ : S32)]) := ⟨_, rfl⟩
        replace H : (if y285.length < 1034834473200 then (topiaryref07_Put.l0 k1 l0 (y285 ++ [(⟨(⟨(rd_T32 l0 x7_1).f0.f0, (rd_T32 l0 x7_1).f0.f1⟩ : S30), (rd_T32 l0 x7_1).f1, (rd_T32 l0 x7_1).f2, (rd_T32 l0 x7_1).f3, (⟨(rd_T32 l0 x7_1).f4.f0, (rd_T32 l0 x7_1).f4.f1⟩ : S30), (⟨(rd_T32 l0 x7_1).f5.f0, (rd_T32 l0 x7_1).f5.f1⟩ : S30), (⟨(rd_T32 l0 x7_1).f6.f0, (rd_T32 l0 x7_1).f6.f1⟩ : S30), (rd_T32 l0 x7_1).f7, (rd_T32 l0 x7_1).f8⟩ : S32)]) true (wrap64 (x7_1 + 1)) a1_0 a1_1 a1_2 l1_3 a1_4 a1_5 a1_6 a1_7 a1_8 a1_9 a1_10 a1_11 a1_12) else (none)) = some r := by first | (rw [hy285]; with_reducible exact H) | (have H2_ := (Option.bind_some _ _).symm.trans H; rw [hy285]; with_reducible exact H2_) | (have H2_ := (Option.bind_some _ _).symm.trans H; with_reducible exact H2_) | with_reducible exact H | (rw [hy285]; exact H) | exact H
        have Ny285 := Aside0.mk hy285
        clear hy285
        by_cases c17 : y285.length < 1034834473200
        ·rw [if_pos c17] at H
         have LMc17 := Aside0.mk c17
         clear c17
         obtain ⟨y289, hy289⟩ : ∃ y_ : List (S32), y_ = (y285 ++ [(⟨(⟨(rd_T32 l0 x7_1).f0.f0, (rd_T32 l0 x7_1).f0.f1⟩ : S30), (rd_T32 l0 x7_1).f1, (rd_T32 l0 x7_1).f2, (rd_T32 l0 x7_1).f3, (⟨(rd_T32 l0 x7_1).f4.f0, (rd_T32 l0 x7_1).f4.f1⟩ : S30), (⟨(rd_T32 l0 x7_1).f5.f0, (rd_T32 l0 x7_1).f5.f1⟩ : S30), (⟨(rd_T32 l0 x7_1).f6.f0, (rd_T32 l0 x7_1).f6.f1⟩ : S30), (rd_T32 l0 x7_1).f7, (rd_T32 l0 x7_1).f8⟩ : S32)]) := ⟨_, rfl⟩
         replace H : (topiaryref07_Put.l0 k1 l0 y289 true (wrap64 (x7_1 + 1)) a1_0 a1_1 a1_2 l1_3 a1_4 a1_5 a1_6 a1_7 a1_8 a1_9 a1_10 a1_11 a1_12) = some r := by first | (rw [hy289]; with_reducible exact H) | (have H2_ := (Option.bind_some _ _).symm.trans H; rw [hy289]; with_reducible exact H2_) | (have H2_ := (Option.bind_some _ _).symm.trans H; with_reducible exact H2_) | with_reducible exact H | (rw [hy289]; exact H) | exact H
         have Ny289 := Aside0.mk hy289
         clear hy289
         have H' := Aside0.mk H
         clear H
         try go_wp2
         replace HO_0 := Aside0.mk (Kd.V_drew HO_0.out)
         replace HO_5 := Aside0.mk (Kd.N_drew HO_5.out)
         replace BK242 := Aside0.mk (blk_drew BK242.out)
         replace HB := Aside0.mk (below_drew1 HB.out)
         have p268 : 0 ≤ (x7_1 : Int) := of_decide_eq_true asmS
         have q268 : x7_1 < (l0.length : Int) := of_decide_eq_true asmS
         obtain ⟨ad268, A268_3, c268_3, e268, hx268_0, hx268_1, hx268_2, hx268_3, hx268_4, hx268_5, hx268_6, hx268_7, hx268_8, hx268_9, hx268_10, hx268_11, hx268_12, hl268_3, hi268_3⟩ := at_T32 (Kd.V_reads' HO_0.out).2.2 x7_1 p268 q268
         cases e268
         obtain ⟨ce268, hce268, hMe268, hcc268⟩ := Kd.V_get HO_0.out z32 x7_1 p268 (by first | exact q268 | exact of_decide_eq_true asmS | (have e_ := (Kd.V_reads' HO_0.out).1; omega))
         obtain ⟨ua268_3, uc268_3, rfl, ul268_3, ge268_3⟩ := k32_openF hMe268
         have hv268_3 := hcc268 3 _ rfl
         rw [add_field _ _ 3 (by omega)] at hv268_3
         replace hv268_3 := Option.some.inj (hv268_3.symm.trans hx268_3)
         injection hv268_3 with hva_ hvn_ hvc_
         rw [hva_] at ge268_3
         rw [hvc_] at ul268_3
         have HL268_3 := Aside0.mk (show Kd.V (Kd.int .i64) 3 _ w.heap.size _ _ ((rd_T32 l0 x7_1).f2) from Kd.V_mk ul268_3 ge268_3)
         clear hva_ hvn_ hvc_ ge268_3 ul268_3
         clear hcc268 hce268
         have HR268_3 := Aside0.mk hi268_3
         have HC268_3 := Aside0.mk hl268_3
         clear hi268_3 hl268_3
         replace p268 := eq_true p268
         replace q268 := eq_true q268
         refine startS (n := 12) (S := fun w' => C13 w' gb242 (.int .i64 a1_0) (.int .i64 a1_1) (.int .i64 a1_2) (.slice A1_3 l1_3.length c1_3) (.int .i64 a1_4) (.int .i64 a1_5) (.int .i64 a1_6) (.int .i64 a1_7) (.int .i64 a1_8) (.int .i64 a1_9) (.int .i64 a1_10) (.string a1_11) (.string a1_12) (E13e w' (ad268.add ((x7_1).toNat * 13)) (.int .i64 ((rd_T32 l0 x7_1).f0.f0)) (.int .i64 ((rd_T32 l0 x7_1).f0.f1)) (.int .i64 ((rd_T32 l0 x7_1).f1)) (.slice A268_3 ((rd_T32 l0 x7_1).f2).length c268_3) (.int .i64 ((rd_T32 l0 x7_1).f3)) (.int .i64 ((rd_T32 l0 x7_1).f4.f0)) (.int .i64 ((rd_T32 l0 x7_1).f4.f1)) (.int .i64 ((rd_T32 l0 x7_1).f5.f0)) (.int .i64 ((rd_T32 l0 x7_1).f5.f1)) (.int .i64 ((rd_T32 l0 x7_1).f6.f0)) (.int .i64 ((rd_T32 l0 x7_1).f6.f1)) (.string ((rd_T32 l0 x7_1).f7)) (.string ((rd_T32 l0 x7_1).f8)))) (ds := []) (c13 BK242 ⟨hx268_0, hx268_1, hx268_2, hx268_3, hx268_4, hx268_5, hx268_6, hx268_7, hx268_8, hx268_9, hx268_10, hx268_11, hx268_12⟩) (fun hHeld => ?_); refine with_tabW topiaryref07_Put.tab6 topiaryref07_Put.bits6 (fun HT_ HW_ => ?_)
         generalize wr.drew = w18 at HO_0 HO_5 BK242 HB HL268_3 HR268_3 hx268_0 hx268_1 hx268_10 hx268_11 hx268_12 hx268_2 hx268_3 hx268_4 hx268_5 hx268_6 hx268_7 hx268_8 hx268_9 hHeld ⊢
         refine pureT (i := 0) (N := some 15) HT_ ?_
         refine pureT (i := 1) (N := some 16) HT_ ?_
         refine pureT (i := 2) (N := some 17) HT_ ?_
         refine pureT (i := 3) (N := some 18) HT_ ?_
         refine pureT (i := 5) (N := some 20) HT_ ?_
         refine pureT (i := 6) (N := some 21) HT_ ?_
         refine pureT (i := 7) (N := some 22) HT_ ?_
         refine pureT (i := 8) (N := some 23) HT_ ?_
         refine takeS (i := 4) (N := some 19) (v := ?_) HT_ HW_ hHeld ?_ ?_
         rotate_left
         ·rintro w' ⟨s0, s1, s2, s3, s4, s5, s6, s7, s8, s9, s10, s11, s12, s13, s14, s15, s16, s17, s18, s19, s20, s21, s22, s23, s24, s25⟩
          go_simp
          with_reducible rfl
         refine normS (N := some 19) ?_
         refine takeS (i := 9) (N := some 24) (v := ?_) HT_ HW_ hHeld ?_ ?_
         rotate_left
         ·rintro w' ⟨s0, s1, s2, s3, s4, s5, s6, s7, s8, s9, s10, s11, s12, s13, s14, s15, s16, s17, s18, s19, s20, s21, s22, s23, s24, s25⟩
          go_simp
          with_reducible rfl
         refine normS (N := some 24) ?_
         refine oneS (i := 10) (N := some 25) HT_ (fun K hK => ?_)
         refine goes_ Try.func60 (by kernel_rfl) rfl #[.agg #[.int .i64 a1_0, .int .i64 a1_1], .agg #[.int .i64 ((rd_T32 l0 x7_1).f0.f0), .int .i64 ((rd_T32 l0 x7_1).f0.f1)]] (by rfl) rfl rfl argS ?_
         with_reducible refine (topiaryref01_Less.calls a1_0 a1_1 ((rd_T32 l0 x7_1).f0.f0) ((rd_T32 l0 x7_1).f0.f1) true _ A13.out).mono ?_
         rintro e w19 ⟨rfl, hb⟩
         have HS13_ := (hb.cell (World.block_lt_of_cell? _ _ (hHeld.2.2.2.2.2.2.2.2.2.2.2.2.2.1))).trans (hHeld.2.2.2.2.2.2.2.2.2.2.2.2.2.1)
         have HS14_ := (hb.cell (World.block_lt_of_cell? _ _ (hHeld.2.2.2.2.2.2.2.2.2.2.2.2.2.2.1))).trans (hHeld.2.2.2.2.2.2.2.2.2.2.2.2.2.2.1)
         have HS15_ := (hb.cell (World.block_lt_of_cell? _ _ (hHeld.2.2.2.2.2.2.2.2.2.2.2.2.2.2.2.1))).trans (hHeld.2.2.2.2.2.2.2.2.2.2.2.2.2.2.2.1)
         have HS16_ := (hb.cell (World.block_lt_of_cell? _ _ (hHeld.2.2.2.2.2.2.2.2.2.2.2.2.2.2.2.2.1))).trans (hHeld.2.2.2.2.2.2.2.2.2.2.2.2.2.2.2.2.1)
         have HS17_ := (hb.cell (World.block_lt_of_cell? _ _ (hHeld.2.2.2.2.2.2.2.2.2.2.2.2.2.2.2.2.2.1))).trans (hHeld.2.2.2.2.2.2.2.2.2.2.2.2.2.2.2.2.2.1)
         have HS18_ := (hb.cell (World.block_lt_of_cell? _ _ (hHeld.2.2.2.2.2.2.2.2.2.2.2.2.2.2.2.2.2.2.1))).trans (hHeld.2.2.2.2.2.2.2.2.2.2.2.2.2.2.2.2.2.2.1)
         have HS19_ := (hb.cell (World.block_lt_of_cell? _ _ (hHeld.2.2.2.2.2.2.2.2.2.2.2.2.2.2.2.2.2.2.2.1))).trans (hHeld.2.2.2.2.2.2.2.2.2.2.2.2.2.2.2.2.2.2.2.1)
         have HS20_ := (hb.cell (World.block_lt_of_cell? _ _ (hHeld.2.2.2.2.2.2.2.2.2.2.2.2.2.2.2.2.2.2.2.2.1))).trans (hHeld.2.2.2.2.2.2.2.2.2.2.2.2.2.2.2.2.2.2.2.2.1)
         have HS21_ := (hb.cell (World.block_lt_of_cell? _ _ (hHeld.2.2.2.2.2.2.2.2.2.2.2.2.2.2.2.2.2.2.2.2.2.1))).trans (hHeld.2.2.2.2.2.2.2.2.2.2.2.2.2.2.2.2.2.2.2.2.2.1)
         have HS22_ := (hb.cell (World.block_lt_of_cell? _ _ (hHeld.2.2.2.2.2.2.2.2.2.2.2.2.2.2.2.2.2.2.2.2.2.2.1))).trans (hHeld.2.2.2.2.2.2.2.2.2.2.2.2.2.2.2.2.2.2.2.2.2.2.1)
         have HS23_ := (hb.cell (World.block_lt_of_cell? _ _ (hHeld.2.2.2.2.2.2.2.2.2.2.2.2.2.2.2.2.2.2.2.2.2.2.2.1))).trans (hHeld.2.2.2.2.2.2.2.2.2.2.2.2.2.2.2.2.2.2.2.2.2.2.2.1)
         have HS24_ := (hb.cell (World.block_lt_of_cell? _ _ (hHeld.2.2.2.2.2.2.2.2.2.2.2.2.2.2.2.2.2.2.2.2.2.2.2.2.1))).trans (hHeld.2.2.2.2.2.2.2.2.2.2.2.2.2.2.2.2.2.2.2.2.2.2.2.2.1)
         have HS25_ := (hb.cell (World.block_lt_of_cell? _ _ (hHeld.2.2.2.2.2.2.2.2.2.2.2.2.2.2.2.2.2.2.2.2.2.2.2.2.2))).trans (hHeld.2.2.2.2.2.2.2.2.2.2.2.2.2.2.2.2.2.2.2.2.2.2.2.2.2)
         refine ⟨_, rfl, ?_⟩
         replace HO_0 := Aside0.mk (Kd.V_below (VS HO_0) hb)
         replace HO_5 := Aside0.mk (Kd.N_below (NS HO_5) hb)
         replace HL268_3 := Aside0.mk (Kd.V_below (VS HL268_3) hb)
         replace BK242 := Aside0.mk (blk_below (blkS BK242) hb)
         replace HR268_3 := Aside0.mk (Kd.C_below (by repeat (first | (with_reducible exact HR268_3.out) | (with_reducible refine Kd.C_alloc ?_ _) | (with_reducible refine Kd.C_drewN ?_ _) | (with_reducible refine Kd.C_drew ?_) | exact HR268_3.out)) hb)
         replace HB := Aside0.mk (below_step (bS1 HB GE242) hb)
         (try clear hb)
         refine hK.out _ _ (c13 BK242 ⟨HS13_, HS14_, HS15_, HS16_, HS17_, HS18_, HS19_, HS20_, HS21_, HS22_, HS23_, HS24_, HS25_⟩) (fun hHeld => ?_)
         clear hK K
         refine normS (N := (some 25)) ?_
         refine pureT (i := 11) (N := some 26) HT_ ?_
         refine done_ (done_of HT_.out (by kernel_rfl)) ?_
         obtain ⟨hcz20_0, hcz20_1, hcz20_2, hcz20_3, hcz20_4, hcz20_5, hcz20_6, hcz20_7, hcz20_8, hcz20_9, hcz20_10, hcz20_11, hcz20_12⟩ := cells13 BK242.out
         obtain ⟨hfz20_0, hfz20_1, hfz20_2, hfz20_3, hfz20_4, hfz20_5, hfz20_6, hfz20_7, hfz20_8, hfz20_9, hfz20_10, hfz20_11, hfz20_12⟩ := froz13 BK242.out
         try go_wp2_with (first | ((with_reducible refine gate_callee (f := 19) rfl ?_); refine goesL_ (some 29) rfl rfl Try.func19 (by kernel_rfl) rfl #[.agg #[.int .i64 a1_0, .int .i64 a1_1, .int .i64 a1_2, .slice A1_3 l1_3.length c1_3, .int .i64 a1_4, .int .i64 a1_5, .int .i64 a1_6, .int .i64 a1_7, .int .i64 a1_8, .int .i64 a1_9, .int .i64 a1_10, .string a1_11, .string a1_12]] rfl argS ?_; (with_reducible refine (topiaryref05_Copy.calls a1_0 a1_1 a1_2 _ _ l1_3 a1_4 a1_5 a1_6 a1_7 a1_8 a1_9 a1_10 a1_11 a1_12 t270 t271 t272 t273 t276 t277 t278 t279 t280 t281 t282 t283 t284 _ ?side1 ?side2 A15.out).mono ?_); (case side1 => exact CS (Kd.C_below HR1_3.out HB.out)); (case side2 => exact HC1_3.out); rintro e w21 ⟨v274, rfl, ho0, hb⟩; refine ⟨_, rfl, ?_⟩; have HO275 := Aside0.mk (Kd.R_lower (Kd.R_newM (M := fun k_ => (w.heap.size ≤ k_)) ho0 (below_size (bS1 HB GE242)) (fun k_ h_ => h_)) (below_size (bS1 HB GE242))); replace HO_0 := Aside0.mk (Kd.V_elder' (VS HO_0) (Kd.R_base ho0) hb); replace HO_5 := Aside0.mk (Kd.N_elder' (NS HO_5) (Kd.R_base ho0) hb); replace HL268_3 := Aside0.mk (Kd.V_elder' (VS HL268_3) (Kd.R_base ho0) hb); replace BK242 := Aside0.mk (blk_below (blkS BK242) hb); replace HR268_3 := Aside0.mk (Kd.C_below (by repeat (first | (with_reducible exact HR268_3.out) | (with_reducible refine Kd.C_alloc ?_ _) | (with_reducible refine Kd.C_drewN ?_ _) | (with_reducible refine Kd.C_drew ?_) | exact HR268_3.out)) hb); replace HB := Aside0.mk (below_step (bS1 HB GE242) hb); (try clear hb); (try clear ho0); obtain ⟨Ao23, co23, eo23⟩ := Kd.R_slice HO275.out; subst eo23) | ((with_reducible refine gate_builtin (b := .append) (xs := #[.tmp 27, .tmp 30]) rfl ?_); at_builtin; refine Kd.N_append k32 (w0 := w) w.heap.size rfl (.tmp 27) (.tmp 30) 22 32 (.agg #[(.int .i64 0), (.int .i64 0), (.int .i64 0), (.slice none 0 0), (.int .i64 0), (.int .i64 0), (.int .i64 0), (.int .i64 0), (.int .i64 0), (.int .i64 0), (.int .i64 0), (.string ⟨#[]⟩), (.string ⟨#[]⟩)]) 136 rfl Try.underlying22 info32 rfl (by decide) (by omega) u5 x5_1 (⟨(⟨t270, t271⟩ : S30), t272, t273, t276, (⟨t277, t278⟩ : S30), (⟨t279, t280⟩ : S30), (⟨t281, t282⟩ : S30), t283, t284⟩ : S32) [.int .i64 t270, .int .i64 t271, .int .i64 t272, .slice Ao23 t273.length co23, .int .i64 t276, .int .i64 t277, .int .i64 t278, .int .i64 t279, .int .i64 t280, .int .i64 t281, .int .i64 t282, .string t283, .string t284] (fun k_ => (P0_ k_ ∨ w.heap.size ≤ k_) ∧ k_ ≠ gb242) (fun k_ => ((fun k_ => (P0_ k_ ∨ w.heap.size ≤ k_) ∧ k_ ≠ gb242)) k_ ∧ some k_ ≠ (u5 : Value).ownBlock) rfl rfl ?aP (fun _ hk => hk) ?aF ?aO ?aB ?aS ?aL ?_; (case aP => exact (k32_mkF _ _ (⟨(⟨t270, t271⟩ : S30), t272, t273, t276, (⟨t277, t278⟩ : S30), (⟨t279, t280⟩ : S30), (⟨t281, t282⟩ : S30), t283, t284⟩ : S32) (Kd.R_reads' (Kd.R_mono (ok' := (fun k_ => ((fun k_ => (P0_ k_ ∨ w.heap.size ≤ k_) ∧ k_ ≠ gb242)) k_ ∧ some k_ ≠ (u5 : Value).ownBlock)) (Kd.R_types (Kd.R_apart' (HO275.out) (Kd.N_typed HO_5.out) (by decide)) BK242.out (by decide)) (fun k_ hk => ⟨⟨(.inr (hk.1.1.1)), hk.2⟩, hk.1.2⟩))).2.1 (Kd.R_F (Kd.R_mono (ok' := (fun k_ => ((fun k_ => (P0_ k_ ∨ w.heap.size ≤ k_) ∧ k_ ≠ gb242)) k_ ∧ some k_ ≠ (u5 : Value).ownBlock)) (Kd.R_types (Kd.R_apart' (HO275.out) (Kd.N_typed HO_5.out) (by decide)) BK242.out (by decide)) (fun k_ hk => ⟨⟨(.inr (hk.1.1.1)), hk.2⟩, hk.1.2⟩))))); (case aB => exact (bS1 HB GE242)); (case aF => exact (fun k_ hk => ⟨(.inr (Nat.le_trans (below_size (bS1 HB GE242)) hk)), Kd.freshB (g := gb242) (o := .cells #[.int .i64 a1_0, .int .i64 a1_1, .int .i64 a1_2, .slice A1_3 l1_3.length c1_3, .int .i64 a1_4, .int .i64 a1_5, .int .i64 a1_6, .int .i64 a1_7, .int .i64 a1_8, .int .i64 a1_9, .int .i64 a1_10, .string a1_11, .string a1_12] 32 (0, 0)) (blkS BK242) k_ hk⟩)); (case aO => exact (by (with_reducible repeat (first | apply Kd.N_alloc | apply Kd.N_drewN | apply Kd.N_drew)); exact Kd.N_mono HO_5.out (fun _ hk => ⟨hk.1.1, hk.1.2⟩))); (case aS => exact (below_size (bS1 HB GE242))); (case aL => have := LMc16.out; omega); intro v286 w22 ho hb hg hat; rw [← Ny285.out] at ho; have n0_ := Aside0.mk (Kd.V_afterv (ok := (fun k_ => (P0_ k_ ∨ w.heap.size ≤ k_) ∧ some k_ ≠ (.slice Ao23 t273.length co23 : Value).ownBlock ∧ k_ ≠ gb242)) (by (with_reducible repeat (first | apply Kd.V_alloc | apply Kd.V_drewN | apply Kd.V_drew)); exact Kd.V_mono HO_0.out (fun _ hk => ⟨⟨hk.1.1, ⟨hk.2, hk.1.2.2⟩⟩, hk.1.2.1⟩)) hg hat); have n1_ := Aside0.mk (blk_grown (blkS BK242) hg (Kd.N_away HO_5.out (fun _ hk => hk.1.2))); have n2_ := Aside0.mk (Kd.V_afterv (ok := (fun k_ => (P0_ k_ ∨ w.heap.size ≤ k_) ∧ some k_ ≠ (.slice Ao23 t273.length co23 : Value).ownBlock ∧ k_ ≠ gb242)) (by (with_reducible repeat (first | apply Kd.V_alloc | apply Kd.V_drewN | apply Kd.V_drew)); exact Kd.V_mono HL268_3.out (fun _ hk => ⟨⟨hk.1.1, ⟨hk.2, hk.1.2.2⟩⟩, hk.1.2.1⟩)) hg hat); have n3_ := Aside0.mk (hb); have n4_ := Aside0.mk (ho); clear HO_0; clear BK242; clear HL268_3; clear HB; clear HO_5; clear HO275; have HO_0 := n0_; have BK242 := n1_; have HL268_3 := n2_; have HB := n3_; have HO287 := n4_; clear n0_ n1_ n2_ n3_ n4_; clear ho hb hg hat; have p288 : 0 ≤ (x7_1 : Int) := of_decide_eq_true asmS; have q288 : x7_1 < (l0.length : Int) := of_decide_eq_true asmS; obtain ⟨ad288, A288_3, c288_3, e288, hx288_0, hx288_1, hx288_2, hx288_3, hx288_4, hx288_5, hx288_6, hx288_7, hx288_8, hx288_9, hx288_10, hx288_11, hx288_12, hl288_3, hi288_3⟩ := at_T32 (Kd.V_reads' HO_0.out).2.2 x7_1 p288 q288; obtain rfl : ad268 = ad288 := (by injection e288); obtain ⟨ce288, hce288, hMe288, hcc288⟩ := Kd.V_get HO_0.out z32 x7_1 p288 (by first | exact q288 | exact of_decide_eq_true asmS | (have e_ := (Kd.V_reads' HO_0.out).1; omega)); obtain ⟨ua288_3, uc288_3, rfl, ul288_3, ge288_3⟩ := k32_openF hMe288; have hv288_3 := hcc288 3 _ rfl; rw [add_field _ _ 3 (by omega)] at hv288_3; replace hv288_3 := Option.some.inj (hv288_3.symm.trans hx288_3); injection hv288_3 with hva_ hvn_ hvc_; rw [hva_] at ge288_3; rw [hvc_] at ul288_3; have HL288_3 := Aside0.mk (show Kd.V (Kd.int .i64) 3 _ w.heap.size _ _ ((rd_T32 l0 x7_1).f2) from Kd.V_mk ul288_3 ge288_3); clear hva_ hvn_ hvc_ ge288_3 ul288_3; clear hcc288 hce288; have HR288_3 := Aside0.mk hi288_3; have HC288_3 := Aside0.mk hl288_3; clear hi288_3 hl288_3; replace p288 := eq_true p288; replace q288 := eq_true q288) | ((with_reducible refine gate_builtin (b := .append) (xs := #[.tmp 32, .tmp 37]) rfl ?_); at_builtin; refine Kd.N_append k32 (w0 := w) w.heap.size rfl (.tmp 32) (.tmp 37) 22 32 (.agg #[(.int .i64 0), (.int .i64 0), (.int .i64 0), (.slice none 0 0), (.int .i64 0), (.int .i64 0), (.int .i64 0), (.int .i64 0), (.int .i64 0), (.int .i64 0), (.int .i64 0), (.string ⟨#[]⟩), (.string ⟨#[]⟩)]) 136 rfl Try.underlying22 info32 rfl (by decide) (by omega) v286 y285 (⟨(⟨(rd_T32 l0 x7_1).f0.f0, (rd_T32 l0 x7_1).f0.f1⟩ : S30), (rd_T32 l0 x7_1).f1, (rd_T32 l0 x7_1).f2, (rd_T32 l0 x7_1).f3, (⟨(rd_T32 l0 x7_1).f4.f0, (rd_T32 l0 x7_1).f4.f1⟩ : S30), (⟨(rd_T32 l0 x7_1).f5.f0, (rd_T32 l0 x7_1).f5.f1⟩ : S30), (⟨(rd_T32 l0 x7_1).f6.f0, (rd_T32 l0 x7_1).f6.f1⟩ : S30), (rd_T32 l0 x7_1).f7, (rd_T32 l0 x7_1).f8⟩ : S32) [.int .i64 ((rd_T32 l0 x7_1).f0.f0), .int .i64 ((rd_T32 l0 x7_1).f0.f1), .int .i64 ((rd_T32 l0 x7_1).f1), .slice A288_3 ((rd_T32 l0 x7_1).f2).length c288_3, .int .i64 ((rd_T32 l0 x7_1).f3), .int .i64 ((rd_T32 l0 x7_1).f4.f0), .int .i64 ((rd_T32 l0 x7_1).f4.f1), .int .i64 ((rd_T32 l0 x7_1).f5.f0), .int .i64 ((rd_T32 l0 x7_1).f5.f1), .int .i64 ((rd_T32 l0 x7_1).f6.f0), .int .i64 ((rd_T32 l0 x7_1).f6.f1), .string ((rd_T32 l0 x7_1).f7), .string ((rd_T32 l0 x7_1).f8)] (fun k_ => (P0_ k_ ∨ w.heap.size ≤ k_) ∧ k_ ≠ gb242) (fun k_ => ((fun k_ => (P0_ k_ ∨ w.heap.size ≤ k_) ∧ k_ ≠ gb242)) k_ ∧ some k_ ≠ (v286 : Value).ownBlock) rfl rfl ?aP (fun _ hk => hk) ?aF ?aO ?aB ?aS ?aL ?_; (case aP => exact (k32_mkF _ _ (⟨(⟨(rd_T32 l0 x7_1).f0.f0, (rd_T32 l0 x7_1).f0.f1⟩ : S30), (rd_T32 l0 x7_1).f1, (rd_T32 l0 x7_1).f2, (rd_T32 l0 x7_1).f3, (⟨(rd_T32 l0 x7_1).f4.f0, (rd_T32 l0 x7_1).f4.f1⟩ : S30), (⟨(rd_T32 l0 x7_1).f5.f0, (rd_T32 l0 x7_1).f5.f1⟩ : S30), (⟨(rd_T32 l0 x7_1).f6.f0, (rd_T32 l0 x7_1).f6.f1⟩ : S30), (rd_T32 l0 x7_1).f7, (rd_T32 l0 x7_1).f8⟩ : S32) (Kd.V_reads' (Kd.V_mono (ok' := (fun k_ => ((fun k_ => (P0_ k_ ∨ w.heap.size ≤ k_) ∧ k_ ≠ gb242)) k_ ∧ some k_ ≠ (v286 : Value).ownBlock)) (HL288_3.out) (fun k_ hk => ⟨⟨hk.1.1, hk.1.2.2⟩, hk.2⟩))).2.1 (Kd.V_F (Kd.V_mono (ok' := (fun k_ => ((fun k_ => (P0_ k_ ∨ w.heap.size ≤ k_) ∧ k_ ≠ gb242)) k_ ∧ some k_ ≠ (v286 : Value).ownBlock)) (HL288_3.out) (fun k_ hk => ⟨⟨hk.1.1, hk.1.2.2⟩, hk.2⟩))))); (case aB => exact (bS1 HB GE242)); (case aF => exact (fun k_ hk => ⟨(.inr (Nat.le_trans (below_size (bS1 HB GE242)) hk)), Kd.freshB (g := gb242) (o := .cells #[.int .i64 a1_0, .int .i64 a1_1, .int .i64 a1_2, .slice A1_3 l1_3.length c1_3, .int .i64 a1_4, .int .i64 a1_5, .int .i64 a1_6, .int .i64 a1_7, .int .i64 a1_8, .int .i64 a1_9, .int .i64 a1_10, .string a1_11, .string a1_12] 32 (0, 0)) (blkS BK242) k_ hk⟩)); (case aO => exact (NS HO287)); (case aS => exact (below_size (bS1 HB GE242))); (case aL => have := LMc17.out; omega); intro v290 w24 ho hb hg hat; rw [← Ny289.out] at ho; have n0_ := Aside0.mk (Kd.V_afterv (ok := (fun k_ => (P0_ k_ ∨ w.heap.size ≤ k_) ∧ k_ ≠ gb242)) (by (with_reducible repeat (first | apply Kd.V_alloc | apply Kd.V_drewN | apply Kd.V_drew)); exact Kd.V_mono HO_0.out (fun _ hk => ⟨⟨hk.1.1, hk.1.2.2⟩, hk.2⟩)) hg hat); have n1_ := Aside0.mk (blk_grown (blkS BK242) hg (Kd.N_away HO287.out (fun _ hk => hk.2))); have n2_ := Aside0.mk (Kd.V_afterv (ok := (fun k_ => (P0_ k_ ∨ w.heap.size ≤ k_) ∧ k_ ≠ gb242)) (by (with_reducible repeat (first | apply Kd.V_alloc | apply Kd.V_drewN | apply Kd.V_drew)); exact Kd.V_mono HL268_3.out (fun _ hk => ⟨⟨hk.1.1, hk.1.2.2⟩, hk.2⟩)) hg hat); have n3_ := Aside0.mk (Kd.V_afterv (ok := (fun k_ => (P0_ k_ ∨ w.heap.size ≤ k_) ∧ k_ ≠ gb242)) (by (with_reducible repeat (first | apply Kd.V_alloc | apply Kd.V_drewN | apply Kd.V_drew)); exact Kd.V_mono HL288_3.out (fun _ hk => ⟨⟨hk.1.1, hk.1.2.2⟩, hk.2⟩)) hg hat); have n4_ := Aside0.mk (hb); have n5_ := Aside0.mk (ho); clear HO_0; clear BK242; clear HL268_3; clear HL288_3; clear HB; clear HO287; have HO_0 := n0_; have BK242 := n1_; have HL268_3 := n2_; have HL288_3 := n3_; have HB := n4_; have HO291 := n5_; clear n0_ n1_ n2_ n3_ n4_ n5_; clear ho hb hg hat))
         go_roundg k1
         case measure => have := HK1.out; omega
         case rel => exact ⟨(y289), (true), (wrap64 (x7_1 + 1)), (by first | rfl | (simp; done) | (simp [*]; done)), (by first | rfl | (simp; done) | (simp [*]; done)), H', ⟨by have := HK1.out; omega⟩, ⟨by (with_reducible repeat (first | apply Kd.V_alloc | apply Kd.V_drewN | apply Kd.V_drew)); exact Kd.V_mono HO_0.out (fun _ hk => ⟨hk.1.1, ⟨hk.2, hk.1.2⟩⟩)⟩, ⟨by (with_reducible repeat (first | apply Kd.N_alloc | apply Kd.N_drewN | apply Kd.N_drew)); exact HO291.out⟩, ⟨by (with_reducible repeat (first | refine blk_drewN ?_ _ | refine blk_drew ?_ | refine blk_alloc ?_ _)); exact BK242.out⟩, ⟨bS1 HB GE242⟩⟩
        ·rw [if_neg c17] at H
         exact absurd H (by simp)
       ·rw [if_neg c16] at H
        exact absurd H (by simp)
      ·replace c14 := Bool.eq_false_iff.mpr c14
       subst c14
       have H1 : (if x5_1.length < 1034834473200 then (topiaryref07_Put.l0 k1 l0 (x5_1 ++ [(⟨(⟨(rd_T32 l0 x7_1).f0.f0, (rd_T32 l0 x7_1).f0.f1⟩ : S30), (rd_T32 l0 x7_1).f1, (rd_T32 l0 x7_1).f2, (rd_T32 l0 x7_1).f3, (⟨(rd_T32 l0 x7_1).f4.f0, (rd_T32 l0 x7_1).f4.f1⟩ : S30), (⟨(rd_T32 l0 x7_1).f5.f0, (rd_T32 l0 x7_1).f5.f1⟩ : S30), (⟨(rd_T32 l0 x7_1).f6.f0, (rd_T32 l0 x7_1).f6.f1⟩ : S30), (rd_T32 l0 x7_1).f7, (rd_T32 l0 x7_1).f8⟩ : S32)]) false (wrap64 (x7_1 + 1)) a1_0 a1_1 a1_2 l1_3 a1_4 a1_5 a1_6 a1_7 a1_8 a1_9 a1_10 a1_11 a1_12) else (none)) = some r := by rw [if_neg (show ¬ (false = true) by decide)] at H; exact H
       clear H
       have H := H1
       clear H1
       by_cases c25 : x5_1.length < 1034834473200
       ·rw [if_pos c25] at H
        have LMc25 := Aside0.mk c25
        clear c25
        obtain ⟨y293, hy293⟩ : ∃ y_ : List (S32), y_ = (x5_1 ++ [(⟨(⟨(rd_T32 l0 x7_1).f0.f0, (rd_T32 l0 x7_1).f0.f1⟩ : S30), (rd_T32 l0 x7_1).f1, (rd_T32 l0 x7_1).f2, (rd_T32 l0 x7_1).f3, (⟨(rd_T32 l0 x7_1).f4.f0, (rd_T32 l0 x7_1).f4.f1⟩ : S30), (⟨(rd_T32 l0 x7_1).f5.f0, (rd_T32 l0 x7_1).f5.f1⟩ : S30), (⟨(rd_T32 l0 x7_1).f6.f0, (rd_T32 l0 x7_1).f6.f1⟩ : S30), (rd_T32 l0 x7_1).f7, (rd_T32 l0 x7_1).f8⟩ : S32)]) := ⟨_, rfl⟩
        replace H : (topiaryref07_Put.l0 k1 l0 y293 false (wrap64 (x7_1 + 1)) a1_0 a1_1 a1_2 l1_3 a1_4 a1_5 a1_6 a1_7 a1_8 a1_9 a1_10 a1_11 a1_12) = some r := by first | (rw [hy293]; with_reducible exact H) | (have H2_ := (Option.bind_some _ _).symm.trans H; rw [hy293]; with_reducible exact H2_) | (have H2_ := (Option.bind_some _ _).symm.trans H; with_reducible exact H2_) | with_reducible exact H | (rw [hy293]; exact H) | exact H
        have Ny293 := Aside0.mk hy293
        clear hy293
        have H' := Aside0.mk H
        clear H
        try go_wp2
        replace HO_0 := Aside0.mk (Kd.V_drew HO_0.out)
        replace HO_5 := Aside0.mk (Kd.N_drew HO_5.out)
        replace BK242 := Aside0.mk (blk_drew BK242.out)
        replace HB := Aside0.mk (below_drew1 HB.out)
        have p268 : 0 ≤ (x7_1 : Int) := of_decide_eq_true asmS
        have q268 : x7_1 < (l0.length : Int) := of_decide_eq_true asmS
        obtain ⟨ad268, A268_3, c268_3, e268, hx268_0, hx268_1, hx268_2, hx268_3, hx268_4, hx268_5, hx268_6, hx268_7, hx268_8, hx268_9, hx268_10, hx268_11, hx268_12, hl268_3, hi268_3⟩ := at_T32 (Kd.V_reads' HO_0.out).2.2 x7_1 p268 q268
        cases e268
        obtain ⟨ce268, hce268, hMe268, hcc268⟩ := Kd.V_get HO_0.out z32 x7_1 p268 (by first | exact q268 | exact of_decide_eq_true asmS | (have e_ := (Kd.V_reads' HO_0.out).1; omega))
        obtain ⟨ua268_3, uc268_3, rfl, ul268_3, ge268_3⟩ := k32_openF hMe268
        have hv268_3 := hcc268 3 _ rfl
        rw [add_field _ _ 3 (by omega)] at hv268_3
        replace hv268_3 := Option.some.inj (hv268_3.symm.trans hx268_3)
        injection hv268_3 with hva_ hvn_ hvc_
        rw [hva_] at ge268_3
        rw [hvc_] at ul268_3
        have HL268_3 := Aside0.mk (show Kd.V (Kd.int .i64) 3 _ w.heap.size _ _ ((rd_T32 l0 x7_1).f2) from Kd.V_mk ul268_3 ge268_3)
        clear hva_ hvn_ hvc_ ge268_3 ul268_3
        clear hcc268 hce268
        have HR268_3 := Aside0.mk hi268_3
        have HC268_3 := Aside0.mk hl268_3
        clear hi268_3 hl268_3
        replace p268 := eq_true p268
        replace q268 := eq_true q268
        refine startS (n := 12) (S := fun w' => C13 w' gb242 (.int .i64 a1_0) (.int .i64 a1_1) (.int .i64 a1_2) (.slice A1_3 l1_3.length c1_3) (.int .i64 a1_4) (.int .i64 a1_5) (.int .i64 a1_6) (.int .i64 a1_7) (.int .i64 a1_8) (.int .i64 a1_9) (.int .i64 a1_10) (.string a1_11) (.string a1_12) (E13e w' (ad268.add ((x7_1).toNat * 13)) (.int .i64 ((rd_T32 l0 x7_1).f0.f0)) (.int .i64 ((rd_T32 l0 x7_1).f0.f1)) (.int .i64 ((rd_T32 l0 x7_1).f1)) (.slice A268_3 ((rd_T32 l0 x7_1).f2).length c268_3) (.int .i64 ((rd_T32 l0 x7_1).f3)) (.int .i64 ((rd_T32 l0 x7_1).f4.f0)) (.int .i64 ((rd_T32 l0 x7_1).f4.f1)) (.int .i64 ((rd_T32 l0 x7_1).f5.f0)) (.int .i64 ((rd_T32 l0 x7_1).f5.f1)) (.int .i64 ((rd_T32 l0 x7_1).f6.f0)) (.int .i64 ((rd_T32 l0 x7_1).f6.f1)) (.string ((rd_T32 l0 x7_1).f7)) (.string ((rd_T32 l0 x7_1).f8)))) (ds := []) (c13 BK242 ⟨hx268_0, hx268_1, hx268_2, hx268_3, hx268_4, hx268_5, hx268_6, hx268_7, hx268_8, hx268_9, hx268_10, hx268_11, hx268_12⟩) (fun hHeld => ?_); refine with_tabW topiaryref07_Put.tab6 topiaryref07_Put.bits6 (fun HT_ HW_ => ?_)
        generalize wr.drew = w26 at HO_0 HO_5 BK242 HB HL268_3 HR268_3 hx268_0 hx268_1 hx268_10 hx268_11 hx268_12 hx268_2 hx268_3 hx268_4 hx268_5 hx268_6 hx268_7 hx268_8 hx268_9 hHeld ⊢
        refine pureT (i := 0) (N := some 15) HT_ ?_
        refine pureT (i := 1) (N := some 16) HT_ ?_
        refine pureT (i := 2) (N := some 17) HT_ ?_
        refine pureT (i := 3) (N := some 18) HT_ ?_
        refine pureT (i := 5) (N := some 20) HT_ ?_
        refine pureT (i := 6) (N := some 21) HT_ ?_
        refine pureT (i := 7) (N := some 22) HT_ ?_
        refine pureT (i := 8) (N := some 23) HT_ ?_
        refine takeS (i := 4) (N := some 19) (v := ?_) HT_ HW_ hHeld ?_ ?_
        rotate_left
        ·rintro w' ⟨s0, s1, s2, s3, s4, s5, s6, s7, s8, s9, s10, s11, s12, s13, s14, s15, s16, s17, s18, s19, s20, s21, s22, s23, s24, s25⟩
         go_simp
         with_reducible rfl
        refine normS (N := some 19) ?_
        refine takeS (i := 9) (N := some 24) (v := ?_) HT_ HW_ hHeld ?_ ?_
        rotate_left
        ·rintro w' ⟨s0, s1, s2, s3, s4, s5, s6, s7, s8, s9, s10, s11, s12, s13, s14, s15, s16, s17, s18, s19, s20, s21, s22, s23, s24, s25⟩
         go_simp
         with_reducible rfl
        refine normS (N := some 24) ?_
        refine oneS (i := 10) (N := some 25) HT_ (fun K hK => ?_)
        refine goes_ Try.func60 (by kernel_rfl) rfl #[.agg #[.int .i64 a1_0, .int .i64 a1_1], .agg #[.int .i64 ((rd_T32 l0 x7_1).f0.f0), .int .i64 ((rd_T32 l0 x7_1).f0.f1)]] (by rfl) rfl rfl argS ?_
        with_reducible refine (topiaryref01_Less.calls a1_0 a1_1 ((rd_T32 l0 x7_1).f0.f0) ((rd_T32 l0 x7_1).f0.f1) false _ A13.out).mono ?_
        rintro e w27 ⟨rfl, hb⟩
        have HS13_ := (hb.cell (World.block_lt_of_cell? _ _ (hHeld.2.2.2.2.2.2.2.2.2.2.2.2.2.1))).trans (hHeld.2.2.2.2.2.2.2.2.2.2.2.2.2.1)
        have HS14_ := (hb.cell (World.block_lt_of_cell? _ _ (hHeld.2.2.2.2.2.2.2.2.2.2.2.2.2.2.1))).trans (hHeld.2.2.2.2.2.2.2.2.2.2.2.2.2.2.1)
        have HS15_ := (hb.cell (World.block_lt_of_cell? _ _ (hHeld.2.2.2.2.2.2.2.2.2.2.2.2.2.2.2.1))).trans (hHeld.2.2.2.2.2.2.2.2.2.2.2.2.2.2.2.1)
        have HS16_ := (hb.cell (World.block_lt_of_cell? _ _ (hHeld.2.2.2.2.2.2.2.2.2.2.2.2.2.2.2.2.1))).trans (hHeld.2.2.2.2.2.2.2.2.2.2.2.2.2.2.2.2.1)
        have HS17_ := (hb.cell (World.block_lt_of_cell? _ _ (hHeld.2.2.2.2.2.2.2.2.2.2.2.2.2.2.2.2.2.1))).trans (hHeld.2.2.2.2.2.2.2.2.2.2.2.2.2.2.2.2.2.1)
        have HS18_ := (hb.cell (World.block_lt_of_cell? _ _ (hHeld.2.2.2.2.2.2.2.2.2.2.2.2.2.2.2.2.2.2.1))).trans (hHeld.2.2.2.2.2.2.2.2.2.2.2.2.2.2.2.2.2.2.1)
        have HS19_ := (hb.cell (World.block_lt_of_cell? _ _ (hHeld.2.2.2.2.2.2.2.2.2.2.2.2.2.2.2.2.2.2.2.1))).trans (hHeld.2.2.2.2.2.2.2.2.2.2.2.2.2.2.2.2.2.2.2.1)
        have HS20_ := (hb.cell (World.block_lt_of_cell? _ _ (hHeld.2.2.2.2.2.2.2.2.2.2.2.2.2.2.2.2.2.2.2.2.1))).trans (hHeld.2.2.2.2.2.2.2.2.2.2.2.2.2.2.2.2.2.2.2.2.1)
        have HS21_ := (hb.cell (World.block_lt_of_cell? _ _ (hHeld.2.2.2.2.2.2.2.2.2.2.2.2.2.2.2.2.2.2.2.2.2.1))).trans (hHeld.2.2.2.2.2.2.2.2.2.2.2.2.2.2.2.2.2.2.2.2.2.1)
        have HS22_ := (hb.cell (World.block_lt_of_cell? _ _ (hHeld.2.2.2.2.2.2.2.2.2.2.2.2.2.2.2.2.2.2.2.2.2.2.1))).trans (hHeld.2.2.2.2.2.2.2.2.2.2.2.2.2.2.2.2.2.2.2.2.2.2.1)
        have HS23_ := (hb.cell (World.block_lt_of_cell? _ _ (hHeld.2.2.2.2.2.2.2.2.2.2.2.2.2.2.2.2.2.2.2.2.2.2.2.1))).trans (hHeld.2.2.2.2.2.2.2.2.2.2.2.2.2.2.2.2.2.2.2.2.2.2.2.1)
        have HS24_ := (hb.cell (World.block_lt_of_cell? _ _ (hHeld.2.2.2.2.2.2.2.2.2.2.2.2.2.2.2.2.2.2.2.2.2.2.2.2.1))).trans (hHeld.2.2.2.2.2.2.2.2.2.2.2.2.2.2.2.2.2.2.2.2.2.2.2.2.1)
        have HS25_ := (hb.cell (World.block_lt_of_cell? _ _ (hHeld.2.2.2.2.2.2.2.2.2.2.2.2.2.2.2.2.2.2.2.2.2.2.2.2.2))).trans (hHeld.2.2.2.2.2.2.2.2.2.2.2.2.2.2.2.2.2.2.2.2.2.2.2.2.2)
        refine ⟨_, rfl, ?_⟩
        replace HO_0 := Aside0.mk (Kd.V_below (VS HO_0) hb)
        replace HO_5 := Aside0.mk (Kd.N_below (NS HO_5) hb)
        replace HL268_3 := Aside0.mk (Kd.V_below (VS HL268_3) hb)
        replace BK242 := Aside0.mk (blk_below (blkS BK242) hb)
        replace HR268_3 := Aside0.mk (Kd.C_below (by repeat (first | (with_reducible exact HR268_3.out) | (with_reducible refine Kd.C_alloc ?_ _) | (with_reducible refine Kd.C_drewN ?_ _) | (with_reducible refine Kd.C_drew ?_) | exact HR268_3.out)) hb)
        replace HB := Aside0.mk (below_step (bS1 HB GE242) hb)
        (try clear hb)
        refine hK.out _ _ (c13 BK242 ⟨HS13_, HS14_, HS15_, HS16_, HS17_, HS18_, HS19_, HS20_, HS21_, HS22_, HS23_, HS24_, HS25_⟩) (fun hHeld => ?_)
        clear hK K
        refine normS (N := (some 25)) ?_
        refine pureT (i := 11) (N := some 26) HT_ ?_
        refine done_ (done_of HT_.out (by kernel_rfl)) ?_
        have p292 : 0 ≤ (x7_1 : Int) := of_decide_eq_true asmS
        have q292 : x7_1 < (l0.length : Int) := of_decide_eq_true asmS
        obtain ⟨ad292, A292_3, c292_3, e292, hx292_0, hx292_1, hx292_2, hx292_3, hx292_4, hx292_5, hx292_6, hx292_7, hx292_8, hx292_9, hx292_10, hx292_11, hx292_12, hl292_3, hi292_3⟩ := at_T32 (Kd.V_reads' HO_0.out).2.2 x7_1 p292 q292
        obtain rfl : ad268 = ad292 := (by injection e292)
        obtain ⟨rfl, rfl⟩ : A292_3 = A268_3 ∧ c292_3 = c268_3 := by
         have e_ := Option.some.inj (HS16_.symm.trans hx292_3)
         injection e_ with e1_ e2_ e3_
         exact ⟨e1_.symm, e3_.symm⟩
        obtain ⟨ce292, hce292, hMe292, hcc292⟩ := Kd.V_get HO_0.out z32 x7_1 p292 (by first | exact q292 | exact of_decide_eq_true asmS | (have e_ := (Kd.V_reads' HO_0.out).1; omega))
        obtain ⟨ua292_3, uc292_3, rfl, ul292_3, ge292_3⟩ := k32_openF hMe292
        have hv292_3 := hcc292 3 _ rfl
        rw [add_field _ _ 3 (by omega)] at hv292_3
        replace hv292_3 := Option.some.inj (hv292_3.symm.trans hx292_3)
        injection hv292_3 with hva_ hvn_ hvc_
        rw [hva_] at ge292_3
        rw [hvc_] at ul292_3
        have HL292_3 := Aside0.mk (show Kd.V (Kd.int .i64) 3 _ w.heap.size _ _ ((rd_T32 l0 x7_1).f2) from Kd.V_mk ul292_3 ge292_3)
        clear hva_ hvn_ hvc_ ge292_3 ul292_3
        clear hcc292 hce292
        have HR292_3 := Aside0.mk hi292_3
        have HC292_3 := Aside0.mk hl292_3
        clear hi292_3 hl292_3
        replace p292 := eq_true p292
        replace q292 := eq_true q292
        try go_wp2_with (first | ((with_reducible refine gate_builtin (b := .append) (xs := #[.tmp 32, .tmp 37]) rfl ?_); at_builtin; refine Kd.N_append k32 (w0 := w) w.heap.size rfl (.tmp 32) (.tmp 37) 22 32 (.agg #[(.int .i64 0), (.int .i64 0), (.int .i64 0), (.slice none 0 0), (.int .i64 0), (.int .i64 0), (.int .i64 0), (.int .i64 0), (.int .i64 0), (.int .i64 0), (.int .i64 0), (.string ⟨#[]⟩), (.string ⟨#[]⟩)]) 136 rfl Try.underlying22 info32 rfl (by decide) (by omega) u5 x5_1 (⟨(⟨(rd_T32 l0 x7_1).f0.f0, (rd_T32 l0 x7_1).f0.f1⟩ : S30), (rd_T32 l0 x7_1).f1, (rd_T32 l0 x7_1).f2, (rd_T32 l0 x7_1).f3, (⟨(rd_T32 l0 x7_1).f4.f0, (rd_T32 l0 x7_1).f4.f1⟩ : S30), (⟨(rd_T32 l0 x7_1).f5.f0, (rd_T32 l0 x7_1).f5.f1⟩ : S30), (⟨(rd_T32 l0 x7_1).f6.f0, (rd_T32 l0 x7_1).f6.f1⟩ : S30), (rd_T32 l0 x7_1).f7, (rd_T32 l0 x7_1).f8⟩ : S32) [.int .i64 ((rd_T32 l0 x7_1).f0.f0), .int .i64 ((rd_T32 l0 x7_1).f0.f1), .int .i64 ((rd_T32 l0 x7_1).f1), .slice A292_3 ((rd_T32 l0 x7_1).f2).length c292_3, .int .i64 ((rd_T32 l0 x7_1).f3), .int .i64 ((rd_T32 l0 x7_1).f4.f0), .int .i64 ((rd_T32 l0 x7_1).f4.f1), .int .i64 ((rd_T32 l0 x7_1).f5.f0), .int .i64 ((rd_T32 l0 x7_1).f5.f1), .int .i64 ((rd_T32 l0 x7_1).f6.f0), .int .i64 ((rd_T32 l0 x7_1).f6.f1), .string ((rd_T32 l0 x7_1).f7), .string ((rd_T32 l0 x7_1).f8)] (fun k_ => (P0_ k_ ∨ w.heap.size ≤ k_) ∧ k_ ≠ gb242) (fun k_ => ((fun k_ => (P0_ k_ ∨ w.heap.size ≤ k_) ∧ k_ ≠ gb242)) k_ ∧ some k_ ≠ (u5 : Value).ownBlock) rfl rfl ?aP (fun _ hk => hk) ?aF ?aO ?aB ?aS ?aL ?_; (case aP => exact (k32_mkF _ _ (⟨(⟨(rd_T32 l0 x7_1).f0.f0, (rd_T32 l0 x7_1).f0.f1⟩ : S30), (rd_T32 l0 x7_1).f1, (rd_T32 l0 x7_1).f2, (rd_T32 l0 x7_1).f3, (⟨(rd_T32 l0 x7_1).f4.f0, (rd_T32 l0 x7_1).f4.f1⟩ : S30), (⟨(rd_T32 l0 x7_1).f5.f0, (rd_T32 l0 x7_1).f5.f1⟩ : S30), (⟨(rd_T32 l0 x7_1).f6.f0, (rd_T32 l0 x7_1).f6.f1⟩ : S30), (rd_T32 l0 x7_1).f7, (rd_T32 l0 x7_1).f8⟩ : S32) (Kd.V_reads' (Kd.V_mono (ok' := (fun k_ => ((fun k_ => (P0_ k_ ∨ w.heap.size ≤ k_) ∧ k_ ≠ gb242)) k_ ∧ some k_ ≠ (u5 : Value).ownBlock)) (HL292_3.out) (fun k_ hk => ⟨⟨hk.1, hk.2.2⟩, hk.2.1⟩))).2.1 (Kd.V_F (Kd.V_mono (ok' := (fun k_ => ((fun k_ => (P0_ k_ ∨ w.heap.size ≤ k_) ∧ k_ ≠ gb242)) k_ ∧ some k_ ≠ (u5 : Value).ownBlock)) (HL292_3.out) (fun k_ hk => ⟨⟨hk.1, hk.2.2⟩, hk.2.1⟩))))); (case aB => exact (bS1 HB GE242)); (case aF => exact (fun k_ hk => ⟨(.inr (Nat.le_trans (below_size (bS1 HB GE242)) hk)), Kd.freshB (g := gb242) (o := .cells #[.int .i64 a1_0, .int .i64 a1_1, .int .i64 a1_2, .slice A1_3 l1_3.length c1_3, .int .i64 a1_4, .int .i64 a1_5, .int .i64 a1_6, .int .i64 a1_7, .int .i64 a1_8, .int .i64 a1_9, .int .i64 a1_10, .string a1_11, .string a1_12] 32 (0, 0)) (blkS BK242) k_ hk⟩)); (case aO => exact (NS HO_5)); (case aS => exact (below_size (bS1 HB GE242))); (case aL => have := LMc25.out; omega); intro v294 w28 ho hb hg hat; rw [← Ny293.out] at ho; have n0_ := Aside0.mk (Kd.V_afterv (ok := (fun k_ => (P0_ k_ ∨ w.heap.size ≤ k_) ∧ k_ ≠ gb242)) (by (with_reducible repeat (first | apply Kd.V_alloc | apply Kd.V_drewN | apply Kd.V_drew)); exact Kd.V_mono HO_0.out (fun _ hk => ⟨⟨hk.1, hk.2.2⟩, hk.2.1⟩)) hg hat); have n1_ := Aside0.mk (blk_grown (blkS BK242) hg (Kd.N_away HO_5.out (fun _ hk => hk.2))); have n2_ := Aside0.mk (Kd.V_afterv (ok := (fun k_ => (P0_ k_ ∨ w.heap.size ≤ k_) ∧ k_ ≠ gb242)) (by (with_reducible repeat (first | apply Kd.V_alloc | apply Kd.V_drewN | apply Kd.V_drew)); exact Kd.V_mono HL268_3.out (fun _ hk => ⟨⟨hk.1, hk.2.2⟩, hk.2.1⟩)) hg hat); have n3_ := Aside0.mk (Kd.V_afterv (ok := (fun k_ => (P0_ k_ ∨ w.heap.size ≤ k_) ∧ k_ ≠ gb242)) (by (with_reducible repeat (first | apply Kd.V_alloc | apply Kd.V_drewN | apply Kd.V_drew)); exact Kd.V_mono HL292_3.out (fun _ hk => ⟨⟨hk.1, hk.2.2⟩, hk.2.1⟩)) hg hat); have n4_ := Aside0.mk (hb); have n5_ := Aside0.mk (ho); clear HO_0; clear BK242; clear HL268_3; clear HL292_3; clear HB; clear HO_5; have HO_0 := n0_; have BK242 := n1_; have HL268_3 := n2_; have HL292_3 := n3_; have HB := n4_; have HO295 := n5_; clear n0_ n1_ n2_ n3_ n4_ n5_; clear ho hb hg hat))
        go_roundg k1
        case measure => have := HK1.out; omega
        case rel => exact ⟨(y293), (false), (wrap64 (x7_1 + 1)), (by first | rfl | (simp; done) | (simp [*]; done)), (by first | rfl | (simp; done) | (simp [*]; done)), H', ⟨by have := HK1.out; omega⟩, ⟨by (with_reducible repeat (first | apply Kd.V_alloc | apply Kd.V_drewN | apply Kd.V_drew)); exact Kd.V_mono HO_0.out (fun _ hk => ⟨hk.1.1, ⟨hk.2, hk.1.2⟩⟩)⟩, ⟨by (with_reducible repeat (first | apply Kd.N_alloc | apply Kd.N_drewN | apply Kd.N_drew)); exact HO295.out⟩, ⟨by (with_reducible repeat (first | refine blk_drewN ?_ _ | refine blk_drew ?_ | refine blk_alloc ?_ _)); exact BK242.out⟩, ⟨bS1 HB GE242⟩⟩
       ·rw [if_neg c25] at H
        exact absurd H (by simp)
     ·rw [if_neg c12] at H
      exact absurd H (by simp)
   ·rw [if_neg c6] at H
    have c6b0 : decide (x7_1 < (l0.length : Int)) = false := decide_eq_false c6
    clear c6
    by_cases c29 : x6_1 = true
    ·subst c29
     have H1 : (some x5_1) = some r := by rw [if_pos rfl] at H; exact H
     clear H
     have H := H1
     clear H1
     obtain rfl := Option.some.inj H
     go_wp2
     go_ret
     exact ⟨_, by first | rfl | (simp [errW_none, errW_some] <;> rfl) | (simp [*, errW_none, errW_some] <;> rfl), by (with_reducible repeat (first | apply Kd.N_alloc | apply Kd.N_drewN | apply Kd.N_drew)); exact Kd.N_mono HO_5.out (fun _ hk => hk.1), bS1 HB GE242⟩
    ·replace c29 := Bool.eq_false_iff.mpr c29
     subst c29
     have H1 : ((topiaryref05_Copy.f a1_0 a1_1 a1_2 l1_3 a1_4 a1_5 a1_6 a1_7 a1_8 a1_9 a1_10 a1_11 a1_12).bind fun bt246 => (if x5_1.length < 1034834473200 then (some (x5_1 ++ [(⟨(⟨bt246.1, bt246.2.1⟩ : S30), bt246.2.2.1, bt246.2.2.2.1, bt246.2.2.2.2.1, (⟨bt246.2.2.2.2.2.1, bt246.2.2.2.2.2.2.1⟩ : S30), (⟨bt246.2.2.2.2.2.2.2.1, bt246.2.2.2.2.2.2.2.2.1⟩ : S30), (⟨bt246.2.2.2.2.2.2.2.2.2.1, bt246.2.2.2.2.2.2.2.2.2.2.1⟩ : S30), bt246.2.2.2.2.2.2.2.2.2.2.2.1, bt246.2.2.2.2.2.2.2.2.2.2.2.2⟩ : S32)])) else (none))) = some r := by rw [if_neg (show ¬ (false = true) by decide)] at H; exact H
     clear H
     have H := H1
     clear H1
     replace H := Option.bind_eq_some_iff.mp H
     obtain ⟨⟨t246, t247, t248, t249, t252, t253, t254, t255, t256, t257, t258, t259, t260⟩, A300, H⟩ := H
     replace H : (if x5_1.length < 1034834473200 then (some (x5_1 ++ [(⟨(⟨t246, t247⟩ : S30), t248, t249, t252, (⟨t253, t254⟩ : S30), (⟨t255, t256⟩ : S30), (⟨t257, t258⟩ : S30), t259, t260⟩ : S32)])) else (none)) = some r := H
     have A30 := Aside0.mk A300
     clear A300
     by_cases c31 : x5_1.length < 1034834473200
     ·rw [if_pos c31] at H
      have LMc31 := Aside0.mk c31
      clear c31
      obtain ⟨y261, hy261⟩ : ∃ y_ : List (S32), y_ = (x5_1 ++ [(⟨(⟨t246, t247⟩ : S30), t248, t249, t252, (⟨t253, t254⟩ : S30), (⟨t255, t256⟩ : S30), (⟨t257, t258⟩ : S30), t259, t260⟩ : S32)]) := ⟨_, rfl⟩
      replace H : (some y261) = some r := by first | (rw [hy261]; with_reducible exact H) | (have H2_ := (Option.bind_some _ _).symm.trans H; rw [hy261]; with_reducible exact H2_) | (have H2_ := (Option.bind_some _ _).symm.trans H; with_reducible exact H2_) | with_reducible exact H | (rw [hy261]; exact H) | exact H
      have Ny261 := Aside0.mk hy261
      clear hy261
      obtain rfl := Option.some.inj H
      obtain ⟨hcz32_0, hcz32_1, hcz32_2, hcz32_3, hcz32_4, hcz32_5, hcz32_6, hcz32_7, hcz32_8, hcz32_9, hcz32_10, hcz32_11, hcz32_12⟩ := cells13 BK242.out
      obtain ⟨hfz32_0, hfz32_1, hfz32_2, hfz32_3, hfz32_4, hfz32_5, hfz32_6, hfz32_7, hfz32_8, hfz32_9, hfz32_10, hfz32_11, hfz32_12⟩ := froz13 BK242.out
      go_wp2_with (first | ((with_reducible refine gate_callee (f := 19) rfl ?_); refine goesL_ (some 43) rfl rfl Try.func19 (by kernel_rfl) rfl #[.agg #[.int .i64 a1_0, .int .i64 a1_1, .int .i64 a1_2, .slice A1_3 l1_3.length c1_3, .int .i64 a1_4, .int .i64 a1_5, .int .i64 a1_6, .int .i64 a1_7, .int .i64 a1_8, .int .i64 a1_9, .int .i64 a1_10, .string a1_11, .string a1_12]] rfl argS ?_; (with_reducible refine (topiaryref05_Copy.calls a1_0 a1_1 a1_2 _ _ l1_3 a1_4 a1_5 a1_6 a1_7 a1_8 a1_9 a1_10 a1_11 a1_12 t246 t247 t248 t249 t252 t253 t254 t255 t256 t257 t258 t259 t260 _ ?side1 ?side2 A30.out).mono ?_); (case side1 => exact CS (Kd.C_below HR1_3.out HB.out)); (case side2 => exact HC1_3.out); rintro e w33 ⟨v250, rfl, ho0, hb⟩; refine ⟨_, rfl, ?_⟩; have HO251 := Aside0.mk (Kd.R_lower (Kd.R_newM (M := fun k_ => (w.heap.size ≤ k_)) ho0 (below_size (bS1 HB GE242)) (fun k_ h_ => h_)) (below_size (bS1 HB GE242))); replace HO_0 := Aside0.mk (Kd.V_elder' (VS HO_0) (Kd.R_base ho0) hb); replace HO_5 := Aside0.mk (Kd.N_elder' (NS HO_5) (Kd.R_base ho0) hb); replace BK242 := Aside0.mk (blk_below (blkS BK242) hb); replace HB := Aside0.mk (below_step (bS1 HB GE242) hb); (try clear hb); (try clear ho0); obtain ⟨Ao35, co35, eo35⟩ := Kd.R_slice HO251.out; subst eo35) | ((with_reducible refine gate_builtin (b := .append) (xs := #[.tmp 41, .tmp 44]) rfl ?_); at_builtin; refine Kd.N_append k32 (w0 := w) w.heap.size rfl (.tmp 41) (.tmp 44) 22 32 (.agg #[(.int .i64 0), (.int .i64 0), (.int .i64 0), (.slice none 0 0), (.int .i64 0), (.int .i64 0), (.int .i64 0), (.int .i64 0), (.int .i64 0), (.int .i64 0), (.int .i64 0), (.string ⟨#[]⟩), (.string ⟨#[]⟩)]) 136 rfl Try.underlying22 info32 rfl (by decide) (by omega) u5 x5_1 (⟨(⟨t246, t247⟩ : S30), t248, t249, t252, (⟨t253, t254⟩ : S30), (⟨t255, t256⟩ : S30), (⟨t257, t258⟩ : S30), t259, t260⟩ : S32) [.int .i64 t246, .int .i64 t247, .int .i64 t248, .slice Ao35 t249.length co35, .int .i64 t252, .int .i64 t253, .int .i64 t254, .int .i64 t255, .int .i64 t256, .int .i64 t257, .int .i64 t258, .string t259, .string t260] (fun k_ => (P0_ k_ ∨ w.heap.size ≤ k_) ∧ k_ ≠ gb242) (fun k_ => ((fun k_ => (P0_ k_ ∨ w.heap.size ≤ k_) ∧ k_ ≠ gb242)) k_ ∧ some k_ ≠ (u5 : Value).ownBlock) rfl rfl ?aP (fun _ hk => hk) ?aF ?aO ?aB ?aS ?aL ?_; (case aP => exact (k32_mkF _ _ (⟨(⟨t246, t247⟩ : S30), t248, t249, t252, (⟨t253, t254⟩ : S30), (⟨t255, t256⟩ : S30), (⟨t257, t258⟩ : S30), t259, t260⟩ : S32) (Kd.R_reads' (Kd.R_mono (ok' := (fun k_ => ((fun k_ => (P0_ k_ ∨ w.heap.size ≤ k_) ∧ k_ ≠ gb242)) k_ ∧ some k_ ≠ (u5 : Value).ownBlock)) (Kd.R_types (Kd.R_apart' (HO251.out) (Kd.N_typed HO_5.out) (by decide)) BK242.out (by decide)) (fun k_ hk => ⟨⟨(.inr (hk.1.1.1)), hk.2⟩, hk.1.2⟩))).2.1 (Kd.R_F (Kd.R_mono (ok' := (fun k_ => ((fun k_ => (P0_ k_ ∨ w.heap.size ≤ k_) ∧ k_ ≠ gb242)) k_ ∧ some k_ ≠ (u5 : Value).ownBlock)) (Kd.R_types (Kd.R_apart' (HO251.out) (Kd.N_typed HO_5.out) (by decide)) BK242.out (by decide)) (fun k_ hk => ⟨⟨(.inr (hk.1.1.1)), hk.2⟩, hk.1.2⟩))))); (case aB => exact (bS1 HB GE242)); (case aF => exact (fun k_ hk => ⟨(.inr (Nat.le_trans (below_size (bS1 HB GE242)) hk)), Kd.freshB (g := gb242) (o := .cells #[.int .i64 a1_0, .int .i64 a1_1, .int .i64 a1_2, .slice A1_3 l1_3.length c1_3, .int .i64 a1_4, .int .i64 a1_5, .int .i64 a1_6, .int .i64 a1_7, .int .i64 a1_8, .int .i64 a1_9, .int .i64 a1_10, .string a1_11, .string a1_12] 32 (0, 0)) (blkS BK242) k_ hk⟩)); (case aO => exact (by (with_reducible repeat (first | apply Kd.N_alloc | apply Kd.N_drewN | apply Kd.N_drew)); exact Kd.N_mono HO_5.out (fun _ hk => ⟨hk.1.1, hk.1.2⟩))); (case aS => exact (below_size (bS1 HB GE242))); (case aL => have := LMc31.out; omega); intro v262 w34 ho hb hg hat; rw [← Ny261.out] at ho; have n0_ := Aside0.mk (Kd.V_afterv (ok := (fun k_ => (P0_ k_ ∨ w.heap.size ≤ k_) ∧ some k_ ≠ (.slice Ao35 t249.length co35 : Value).ownBlock ∧ k_ ≠ gb242)) (by (with_reducible repeat (first | apply Kd.V_alloc | apply Kd.V_drewN | apply Kd.V_drew)); exact Kd.V_mono HO_0.out (fun _ hk => ⟨⟨hk.1.1, ⟨hk.2, hk.1.2.2⟩⟩, hk.1.2.1⟩)) hg hat); have n1_ := Aside0.mk (blk_grown (blkS BK242) hg (Kd.N_away HO_5.out (fun _ hk => hk.1.2))); have n2_ := Aside0.mk (hb); have n3_ := Aside0.mk (ho); clear HO_0; clear BK242; clear HB; clear HO_5; clear HO251; have HO_0 := n0_; have BK242 := n1_; have HB := n2_; have HO263 := n3_; clear n0_ n1_ n2_ n3_; clear ho hb hg hat))
      go_ret
      exact ⟨_, by first | rfl | (simp [errW_none, errW_some] <;> rfl) | (simp [*, errW_none, errW_some] <;> rfl), by (with_reducible repeat (first | apply Kd.N_alloc | apply Kd.N_drewN | apply Kd.N_drew)); exact Kd.N_mono HO263.out (fun _ hk => hk.1), bS1 HB GE242⟩
     ·rw [if_neg c31] at H
      exact absurd H (by simp)
def topiaryref05_CopyAll.l0 : Nat → List (S32) → List (S32) → Int → Option ((List (S32)))
 | 0, _, _, _ => none
 | k + 1, x0, x3, x4 => if x4 < (x0.length : Int) then (if 0 ≤ x4 then ((topiaryref05_Copy.f ((rd_T32 x0 x4).f0.f0) ((rd_T32 x0 x4).f0.f1) ((rd_T32 x0 x4).f1) ((rd_T32 x0 x4).f2) ((rd_T32 x0 x4).f3) ((rd_T32 x0 x4).f4.f0) ((rd_T32 x0 x4).f4.f1) ((rd_T32 x0 x4).f5.f0) ((rd_T32 x0 x4).f5.f1) ((rd_T32 x0 x4).f6.f0) ((rd_T32 x0 x4).f6.f1) ((rd_T32 x0 x4).f7) ((rd_T32 x0 x4).f8)).bind fun bt307 => (if x3.length < 1034834473200 then (topiaryref05_CopyAll.l0 k x0 (x3 ++ [(⟨(⟨bt307.1, bt307.2.1⟩ : S30), bt307.2.2.1, bt307.2.2.2.1, bt307.2.2.2.2.1, (⟨bt307.2.2.2.2.2.1, bt307.2.2.2.2.2.2.1⟩ : S30), (⟨bt307.2.2.2.2.2.2.2.1, bt307.2.2.2.2.2.2.2.2.1⟩ : S30), (⟨bt307.2.2.2.2.2.2.2.2.2.1, bt307.2.2.2.2.2.2.2.2.2.2.1⟩ : S30), bt307.2.2.2.2.2.2.2.2.2.2.2.1, bt307.2.2.2.2.2.2.2.2.2.2.2.2⟩ : S32)]) (wrap64 (x4 + 1))) else (none))) else (none)) else (some x3)
def topiaryref05_CopyAll.f (k : Nat) (l0 : List (S32)) : Option ((List (S32))) := topiaryref05_CopyAll.l0 k l0 (([] : List (S32))) 0
set_option maxHeartbeats 8000000 in
set_option maxRecDepth 100000 in
theorem topiaryref05_CopyAll.calls (k : Nat) (A0 : Option Addr) (c0 : Nat) (l0 : List (S32)) (r : List (S32)) (w : World) (hr0 : Kd.C k32 w A0 l0.length l0) (hc0 : l0.length ≤ c0) (h : topiaryref05_CopyAll.f k l0 = some r) :
  Calls Try.prog 12 #[.slice A0 l0.length c0] w fun e w' => ∃ v0_ : Value, e = .returned (v0_) ∧ Kd.S k32 32 w' w.heap.size (fun _ => True) v0_ r ∧ Below w.heap.size w w' := by
 have hu32 := Try.underlying32
 have HR0 := Aside0.mk hr0
 have HC0 := Aside0.mk hc0
 clear hr0 hc0
 have HB := Aside0.mk (Below.refl w.heap.size w)
 have H : (topiaryref05_CopyAll.l0 k l0 (([] : List (S32))) 0) = some r := h
 clear h
 obtain ⟨y303, hy303⟩ : ∃ y_ : List (S32), y_ = (([] : List (S32))) := ⟨_, rfl⟩
 replace H : (topiaryref05_CopyAll.l0 k l0 y303 0) = some r := by first | (rw [hy303]; with_reducible exact H) | (have H2_ := (Option.bind_some _ _).symm.trans H; rw [hy303]; with_reducible exact H2_) | (have H2_ := (Option.bind_some _ _).symm.trans H; with_reducible exact H2_) | with_reducible exact H | (rw [hy303]; exact H) | exact H
 have Ny303 := Aside0.mk hy303
 clear hy303
 have H' := Aside0.mk H
 clear H
 go_enter Try.func12, Try.ntmps12
 go_wp2_with (first | ((with_reducible refine gate_dst (N := 5) rfl ?_); refine Kd.S_lit k32 _ 32 ?hg (N := 5) ?hd (xs := ([] : List (S32))) (inner := []) (ok := fun _ => True) (okp := fun _ => True) ?hr ?hp (fun _ hk => hk) trivial (Below.refl _ _) (Nat.le_refl _) (by simp) ?_; (case hd => rfl); (case hg => rfl); (case hr => first | (go_simp; done) | (go_simp; rfl)); (case hp => exact (Reps.none _ _)); intro v304 w2 ho3 hb hg_ hnew_; clear hg_ hnew_; (first | rw [← Ny303.out] at ho3 | (simp only [Int.reduceToNat] at ho3; rw [← Ny303.out] at ho3)); have HO305 := Aside0.mk (Kd.S_lower ho3 (below_size (bS HB))); replace HB := Aside0.mk (below_step (bS HB) hb); clear hb ho3))
 go_loopg [3, 4] k (fun kq v3 v4 w' => ∃ (x3_1 : List (S32)) (x4_1 : Int), v4 = .int .i64 x4_1 ∧ Aside0 (topiaryref05_CopyAll.l0 kq l0 x3_1 x4_1 = some r) ∧ Aside0 (kq ≤ k) ∧ Aside0 (Kd.S k32 32 w' w.heap.size (fun _ => True) v3 x3_1) ∧ Aside0 (Below w.heap.size w w'))
 case atStart => exact ⟨(y303), (0), (by first | rfl | (simp; done) | (simp [*]; done)), H', ⟨Nat.le_refl _⟩, ⟨by (with_reducible repeat (first | apply Kd.S_alloc | apply Kd.S_drewN | apply Kd.S_drew)); exact HO305.out⟩, ⟨bS HB⟩⟩
 case round =>
  clear H'
  (try clear c1); (try clear p2)
  obtain ⟨x3_1, x4_1, rfl, HA, HK1, HO_3, HB⟩ := hrel
  cases gk with
  | zero => exact absurd HA.out (by simp [topiaryref05_CopyAll.l0])
  | succ k1 =>
   have H := HA.out
   clear HA
   simp only [topiaryref05_CopyAll.l0] at H
   by_cases c4 : x4_1 < (l0.length : Int)
   ·rw [if_pos c4] at H
    have c4b0 : decide (x4_1 < (l0.length : Int)) = true := decide_eq_true c4
    clear c4
    by_cases c5 : 0 ≤ x4_1
    ·rw [if_pos c5] at H
     have c5b0 : decide (0 ≤ x4_1) = true := decide_eq_true c5
     clear c5
     replace H := Option.bind_eq_some_iff.mp H
     obtain ⟨⟨t307, t308, t309, t310, t313, t314, t315, t316, t317, t318, t319, t320, t321⟩, A60, H⟩ := H
     replace H : (if x3_1.length < 1034834473200 then (topiaryref05_CopyAll.l0 k1 l0 (x3_1 ++ [(⟨(⟨t307, t308⟩ : S30), t309, t310, t313, (⟨t314, t315⟩ : S30), (⟨t316, t317⟩ : S30), (⟨t318, t319⟩ : S30), t320, t321⟩ : S32)]) (wrap64 (x4_1 + 1))) else (none)) = some r := H
     have A6 := Aside0.mk A60
     clear A60
     by_cases c7 : x3_1.length < 1034834473200
     ·rw [if_pos c7] at H
      have LMc7 := Aside0.mk c7
      clear c7
      obtain ⟨y322, hy322⟩ : ∃ y_ : List (S32), y_ = (x3_1 ++ [(⟨(⟨t307, t308⟩ : S30), t309, t310, t313, (⟨t314, t315⟩ : S30), (⟨t316, t317⟩ : S30), (⟨t318, t319⟩ : S30), t320, t321⟩ : S32)]) := ⟨_, rfl⟩
      replace H : (topiaryref05_CopyAll.l0 k1 l0 y322 (wrap64 (x4_1 + 1))) = some r := by first | (rw [hy322]; with_reducible exact H) | (have H2_ := (Option.bind_some _ _).symm.trans H; rw [hy322]; with_reducible exact H2_) | (have H2_ := (Option.bind_some _ _).symm.trans H; with_reducible exact H2_) | with_reducible exact H | (rw [hy322]; exact H) | exact H
      have Ny322 := Aside0.mk hy322
      clear hy322
      have H' := Aside0.mk H
      clear H
      have p306 : 0 ≤ (x4_1 : Int) := of_decide_eq_true asmS
      have q306 : x4_1 < (l0.length : Int) := of_decide_eq_true asmS
      obtain ⟨ad306, A306_3, c306_3, e306, hx306_0, hx306_1, hx306_2, hx306_3, hx306_4, hx306_5, hx306_6, hx306_7, hx306_8, hx306_9, hx306_10, hx306_11, hx306_12, hl306_3, hi306_3⟩ := at_T32 HR0.out x4_1 p306 q306
      cases e306
      replace hx306_0 := (HB.out.cell (World.block_lt_of_cell? w _ hx306_0)).trans hx306_0
      replace hx306_1 := (HB.out.cell (World.block_lt_of_cell? w _ hx306_1)).trans hx306_1
      replace hx306_2 := (HB.out.cell (World.block_lt_of_cell? w _ hx306_2)).trans hx306_2
      replace hx306_3 := (HB.out.cell (World.block_lt_of_cell? w _ hx306_3)).trans hx306_3
      replace hx306_4 := (HB.out.cell (World.block_lt_of_cell? w _ hx306_4)).trans hx306_4
      replace hx306_5 := (HB.out.cell (World.block_lt_of_cell? w _ hx306_5)).trans hx306_5
      replace hx306_6 := (HB.out.cell (World.block_lt_of_cell? w _ hx306_6)).trans hx306_6
      replace hx306_7 := (HB.out.cell (World.block_lt_of_cell? w _ hx306_7)).trans hx306_7
      replace hx306_8 := (HB.out.cell (World.block_lt_of_cell? w _ hx306_8)).trans hx306_8
      replace hx306_9 := (HB.out.cell (World.block_lt_of_cell? w _ hx306_9)).trans hx306_9
      replace hx306_10 := (HB.out.cell (World.block_lt_of_cell? w _ hx306_10)).trans hx306_10
      replace hx306_11 := (HB.out.cell (World.block_lt_of_cell? w _ hx306_11)).trans hx306_11
      replace hx306_12 := (HB.out.cell (World.block_lt_of_cell? w _ hx306_12)).trans hx306_12
      have HR306_3 := Aside0.mk hi306_3
      have HC306_3 := Aside0.mk hl306_3
      clear hi306_3 hl306_3
      replace p306 := eq_true p306
      replace q306 := eq_true q306
      go_wp2_with (first | ((with_reducible refine gate_callee (f := 19) rfl ?_); refine goesL_ (some 17) rfl rfl Try.func19 (by kernel_rfl) rfl #[.agg #[.int .i64 ((rd_T32 l0 x4_1).f0.f0), .int .i64 ((rd_T32 l0 x4_1).f0.f1), .int .i64 ((rd_T32 l0 x4_1).f1), .slice A306_3 ((rd_T32 l0 x4_1).f2).length c306_3, .int .i64 ((rd_T32 l0 x4_1).f3), .int .i64 ((rd_T32 l0 x4_1).f4.f0), .int .i64 ((rd_T32 l0 x4_1).f4.f1), .int .i64 ((rd_T32 l0 x4_1).f5.f0), .int .i64 ((rd_T32 l0 x4_1).f5.f1), .int .i64 ((rd_T32 l0 x4_1).f6.f0), .int .i64 ((rd_T32 l0 x4_1).f6.f1), .string ((rd_T32 l0 x4_1).f7), .string ((rd_T32 l0 x4_1).f8)]] rfl argS ?_; (with_reducible refine (topiaryref05_Copy.calls ((rd_T32 l0 x4_1).f0.f0) ((rd_T32 l0 x4_1).f0.f1) ((rd_T32 l0 x4_1).f1) _ _ ((rd_T32 l0 x4_1).f2) ((rd_T32 l0 x4_1).f3) ((rd_T32 l0 x4_1).f4.f0) ((rd_T32 l0 x4_1).f4.f1) ((rd_T32 l0 x4_1).f5.f0) ((rd_T32 l0 x4_1).f5.f1) ((rd_T32 l0 x4_1).f6.f0) ((rd_T32 l0 x4_1).f6.f1) ((rd_T32 l0 x4_1).f7) ((rd_T32 l0 x4_1).f8) t307 t308 t309 t310 t313 t314 t315 t316 t317 t318 t319 t320 t321 _ ?side1 ?side2 A6.out).mono ?_); (case side1 => exact CS (Kd.C_below HR306_3.out HB.out)); (case side2 => exact HC306_3.out); rintro e w8 ⟨v311, rfl, ho0, hb⟩; refine ⟨_, rfl, ?_⟩; have HO312 := Aside0.mk (Kd.R_lower ho0 (below_size (bS HB))); replace HO_3 := Aside0.mk (Kd.S_elder' (SSS HO_3) (Kd.R_base ho0) hb); replace HB := Aside0.mk (below_step (bS HB) hb); (try clear hb); (try clear ho0); obtain ⟨Ao10, co10, eo10⟩ := Kd.R_slice HO312.out; subst eo10) | ((with_reducible refine gate_builtin (b := .append) (xs := #[.tmp 12, .tmp 18]) rfl ?_); at_builtin; refine Kd.S_append k32 (w0 := w) w.heap.size rfl (.tmp 12) (.tmp 18) 22 32 (.agg #[(.int .i64 0), (.int .i64 0), (.int .i64 0), (.slice none 0 0), (.int .i64 0), (.int .i64 0), (.int .i64 0), (.int .i64 0), (.int .i64 0), (.int .i64 0), (.int .i64 0), (.string ⟨#[]⟩), (.string ⟨#[]⟩)]) 136 rfl Try.underlying22 info32 rfl (by decide) (by omega) u3 x3_1 (⟨(⟨t307, t308⟩ : S30), t309, t310, t313, (⟨t314, t315⟩ : S30), (⟨t316, t317⟩ : S30), (⟨t318, t319⟩ : S30), t320, t321⟩ : S32) [.int .i64 t307, .int .i64 t308, .int .i64 t309, .slice Ao10 t310.length co10, .int .i64 t313, .int .i64 t314, .int .i64 t315, .int .i64 t316, .int .i64 t317, .int .i64 t318, .int .i64 t319, .string t320, .string t321] (fun _ => True) (fun k_ => some k_ = (.slice Ao10 t310.length co10 : Value).ownBlock) rfl rfl ?aP (fun k_ hk_ => ((Kd.R_mono (ok' := fun k_ => ((fun _ => True)) k_ ∧ some k_ ≠ (u3 : Value).ownBlock) (Kd.R_apart' (HO312.out) (Kd.S_typed HO_3.out) (by decide)) (fun k_ hk => ⟨trivial, hk.2⟩))).1 k_ hk_.symm) ?aF ?aO ?aB ?aS ?aL ?_; (case aP => exact k32_mkM _ _ _ (⟨(⟨t307, t308⟩ : S30), t309, t310, t313, (⟨t314, t315⟩ : S30), (⟨t316, t317⟩ : S30), (⟨t318, t319⟩ : S30), t320, t321⟩ : S32) (Kd.R_mono (Kd.R_tight rfl (Kd.R_mono (ok' := fun k_ => ((fun _ => True)) k_ ∧ some k_ ≠ (u3 : Value).ownBlock) (Kd.R_apart' (HO312.out) (Kd.S_typed HO_3.out) (by decide)) (fun k_ hk => ⟨trivial, hk.2⟩))) (fun _ h_ => h_))); (case aB => exact (bS HB)); (case aF => exact (fun _ _ => trivial)); (case aO => exact (by (with_reducible repeat (first | apply Kd.S_alloc | apply Kd.S_drewN | apply Kd.S_drew)); exact Kd.S_mono HO_3.out (fun k_ hk => ⟨trivial, fun e_ => hk.2 e_⟩))); (case aS => exact (below_size (bS HB))); (case aL => have := LMc7.out; omega); intro v323 w9 ho hb hg hat; rw [← Ny322.out] at ho; have n0_ := Aside0.mk (hb); have n1_ := Aside0.mk (ho); clear HB; clear HO_3; clear HO312; have HB := n0_; have HO324 := n1_; clear n0_ n1_; clear ho hb hg hat))
      go_roundg k1
      case measure => have := HK1.out; omega
      case rel => exact ⟨(y322), (wrap64 (x4_1 + 1)), (by first | rfl | (simp; done) | (simp [*]; done)), H', ⟨by have := HK1.out; omega⟩, ⟨by (with_reducible repeat (first | apply Kd.S_alloc | apply Kd.S_drewN | apply Kd.S_drew)); exact HO324.out⟩, ⟨bS HB⟩⟩
     ·rw [if_neg c7] at H
      exact absurd H (by simp)
    ·rw [if_neg c5] at H
     exact absurd H (by simp)
   ·rw [if_neg c4] at H
    have c4b0 : decide (x4_1 < (l0.length : Int)) = false := decide_eq_false c4
    clear c4
    obtain rfl := Option.some.inj H
    go_wp2
    go_ret
    exact ⟨_, by first | rfl | (simp [errW_none, errW_some] <;> rfl) | (simp [*, errW_none, errW_some] <;> rfl), by (with_reducible repeat (first | apply Kd.S_alloc | apply Kd.S_drewN | apply Kd.S_drew)); exact HO_3.out, bS HB⟩
end Go.Proofs.Ytnopjjilpgekfaa.PCa
namespace Go.Proofs.Ytnopjjilpgekfaa.PCa
open Go.RowKit Go.Proofs.YtnopjjilpgekfaaW.PrintWords Go.Proofs.YtnopjjilpgekfaaW.PrintLast Go.Proofs.YtnopjjilpgekfaaW.PrintMore
attribute [local go_sem] max2_int min2_int max_two min_two max_three min_three max_four min_four
set_option linter.unusedVariables false
set_option linter.unusedSimpArgs false
attribute [local go_sem high] eqA30
def topiaryref01_Has.l0 : Nat → List (S30) → Int → Int → Int → Option (Bool)
 | 0, _, _, _, _ => none
 | k + 1, x0, x5, x168000, x168001 => if x5 < (x0.length : Int) then (if 0 ≤ x5 then (if (((rd_T30 x0 x5).f0) == x168000 && (((rd_T30 x0 x5).f1) == x168001)) = true then (some true) else (topiaryref01_Has.l0 k x0 (wrap64 (x5 + 1)) x168000 x168001)) else (none)) else (some false)
def topiaryref01_Has.f (k : Nat) (l0 : List (S30)) (a1_0 : Int) (a1_1 : Int) : Option (Bool) := topiaryref01_Has.l0 k l0 0 a1_0 a1_1
theorem topiaryref01_Has.mono_l : ∀ k, (∀ y0 y1 y2 y3, LeO (topiaryref01_Has.l0 k y0 y1 y2 y3) (topiaryref01_Has.l0 (k + 1) y0 y1 y2 y3))
 | 0 => fun _ _ _ _ r h => by simp [topiaryref01_Has.l0] at h
 | k + 1 => by
  have ih0 := topiaryref01_Has.mono_l k
  ·intro y0 y1 y2 y3
   unfold topiaryref01_Has.l0
   repeat' first
   | (with_reducible exact ih0 _ _ _ _)
   | (with_reducible exact LeO.refl _)
   | (with_reducible exact LeO.none _)
   | (with_reducible refine LeO.ite ?_ ?_)
   | (with_reducible refine LeO.bind ?_ (fun _ => ?_))
   | exact ih0 _ _ _ _
   | exact LeO.none _
   | refine LeO.ite ?_ ?_
   | refine LeO.bind ?_ (fun _ => ?_)
theorem topiaryref01_Has.mono : ∀ a0 a1 a2 k, LeO (topiaryref01_Has.f k a0 a1 a2) (topiaryref01_Has.f (k + 1) a0 a1 a2) := by
 intro a0 a1 a2 k
 have ih0 := topiaryref01_Has.mono_l k
 unfold topiaryref01_Has.f
 repeat' first
   | (with_reducible exact ih0 _ _ _ _)
   | (with_reducible exact LeO.refl _)
   | (with_reducible exact LeO.none _)
   | (with_reducible refine LeO.ite ?_ ?_)
   | (with_reducible refine LeO.bind ?_ (fun _ => ?_))
   | exact ih0 _ _ _ _
   | exact LeO.none _
   | refine LeO.ite ?_ ?_
   | refine LeO.bind ?_ (fun _ => ?_)
set_option maxHeartbeats 8000000 in
set_option maxRecDepth 100000 in
theorem topiaryref01_Has.calls (k : Nat) (A0 : Option Addr) (c0 : Nat) (l0 : List (S30)) (a1_0 : Int) (a1_1 : Int) (r : Bool) (w : World) (hr0 : Kd.C k30 w A0 l0.length l0) (hc0 : l0.length ≤ c0) (h : topiaryref01_Has.f k l0 a1_0 a1_1 = some r) :
  Calls Try.prog 87 #[.slice A0 l0.length c0, .agg #[.int .i64 a1_0, .int .i64 a1_1]] w fun e w' => e = .returned (.bool r) ∧ Below w.heap.size w w' := by
 have hu30 := Try.underlying30
 have HR0 := Aside0.mk hr0
 have HC0 := Aside0.mk hc0
 clear hr0 hc0
 have HB := Aside0.mk (Below.refl w.heap.size w)
 have H : (topiaryref01_Has.l0 k l0 0 a1_0 a1_1) = some r := h
 clear h
 have H' := Aside0.mk H
 clear H
 go_enter Try.func87, Try.ntmps87
 go_wp2_with (first | ((with_reducible refine gate_dst (N := 3) rfl ?_); refine boxE (N := 3) (cs := #[.int .i64 a1_0, .int .i64 a1_1]) (t := 30) ?_; intro gb167 hg w3 hbox hb; have BK167 := Aside0.mk (hbox); have GW167 := Aside0.mk ((by rw [hg]; exact (below_size (bS HB)) : w.heap.size ≤ gb167)); have GE167 := Aside0.mk ((by rw [hg]; exact (below_size (bS HB)) : w.heap.size ≤ gb167)); replace HB := Aside0.mk (below_step (bS HB) hb); clear hb hbox hg))
 repeat (go_quiet (first | ((with_reducible refine gate_dst (N := 3) rfl ?_); refine boxE (N := 3) (cs := #[.int .i64 a1_0, .int .i64 a1_1]) (t := 30) ?_; intro gb167 hg w3 hbox hb; have BK167 := Aside0.mk (hbox); have GW167 := Aside0.mk ((by rw [hg]; exact (below_size (bS HB)) : w.heap.size ≤ gb167)); have GE167 := Aside0.mk ((by rw [hg]; exact (below_size (bS HB)) : w.heap.size ≤ gb167)); replace HB := Aside0.mk (below_step (bS HB) hb); clear hb hbox hg)); try go_wp2_with (first | ((with_reducible refine gate_dst (N := 3) rfl ?_); refine boxE (N := 3) (cs := #[.int .i64 a1_0, .int .i64 a1_1]) (t := 30) ?_; intro gb167 hg w3 hbox hb; have BK167 := Aside0.mk (hbox); have GW167 := Aside0.mk ((by rw [hg]; exact (below_size (bS HB)) : w.heap.size ≤ gb167)); have GE167 := Aside0.mk ((by rw [hg]; exact (below_size (bS HB)) : w.heap.size ≤ gb167)); replace HB := Aside0.mk (below_step (bS HB) hb); clear hb hbox hg)))
 go_loopg [5] k (fun kq v5 w' => ∃ (x5_1 : Int), v5 = .int .i64 x5_1 ∧ Aside0 (topiaryref01_Has.l0 kq l0 x5_1 a1_0 a1_1 = some r) ∧ Aside0 (kq ≤ k) ∧ Aside0 (w'.heap[gb167]? = some (.cells #[.int .i64 a1_0, .int .i64 a1_1] 30 (0, 0))) ∧ Aside0 (Below w.heap.size w w'))
 case atStart => exact ⟨(0), (by first | rfl | (simp; done) | (simp [*]; done)), H', ⟨Nat.le_refl _⟩, ⟨by (with_reducible repeat (first | refine blk_drewN ?_ _ | refine blk_drew ?_ | refine blk_alloc ?_ _)); exact BK167.out⟩, ⟨bS1 HB GE167⟩⟩
 case round =>
  clear H'
  (try clear p2)
  obtain ⟨x5_1, rfl, HA, HK1, BK167, HB⟩ := hrel
  cases gk with
  | zero => exact absurd HA.out (by simp [topiaryref01_Has.l0])
  | succ k1 =>
   have H := HA.out
   clear HA
   simp only [topiaryref01_Has.l0] at H
   by_cases c4 : x5_1 < (l0.length : Int)
   ·rw [if_pos c4] at H
    have c4b0 : decide (x5_1 < (l0.length : Int)) = true := decide_eq_true c4
    clear c4
    by_cases c5 : 0 ≤ x5_1
    ·rw [if_pos c5] at H
     have c5b0 : decide (0 ≤ x5_1) = true := decide_eq_true c5
     clear c5
     by_cases c6 : (((rd_T30 l0 x5_1).f0) == a1_0 && (((rd_T30 l0 x5_1).f1) == a1_1)) = true
     ·rw [if_pos c6] at H
      have c6b0 : (((rd_T30 l0 x5_1).f0) == a1_0 && (((rd_T30 l0 x5_1).f1) == a1_1)) = true := c6
      (try (have c6b1 : decide (((rd_T30 l0 x5_1).f0) = a1_0 && (((rd_T30 l0 x5_1).f1) == a1_1)) = true := by simpa using c6))
      (try (have c6b2 : (((rd_T30 l0 x5_1).f0) == a1_0 && (((rd_T30 l0 x5_1).f1) == a1_1)) = true := by simpa using c6))
      clear c6
      obtain rfl := Option.some.inj H
      have p168 : 0 ≤ (x5_1 : Int) := of_decide_eq_true asmS
      have q168 : x5_1 < (l0.length : Int) := of_decide_eq_true asmS
      obtain ⟨ad168, e168, hx168_0, hx168_1⟩ := at_T30 HR0.out x5_1 p168 q168
      cases e168
      replace hx168_0 := (HB.out.cell (World.block_lt_of_cell? w _ hx168_0)).trans hx168_0
      replace hx168_1 := (HB.out.cell (World.block_lt_of_cell? w _ hx168_1)).trans hx168_1
      replace p168 := eq_true p168
      replace q168 := eq_true q168
      have hcz7_0 : wr.cell? ⟨gb167, 0, none⟩ = some (.int .i64 a1_0) := (blk_cell BK167.out 0).trans rfl
      have hcz7_1 : wr.cell? ⟨gb167, 1, none⟩ = some (.int .i64 a1_1) := (blk_cell BK167.out 1).trans rfl
      have hfz7_0 := blk_frozen BK167.out 0
      have hfz7_1 := blk_frozen BK167.out 1
      go_wp2
      repeat (go_quiet (fail); try go_wp2)
      go_ret
      exact ⟨by first | rfl | (simp [errW_none, errW_some] <;> rfl) | (simp [*, errW_none, errW_some] <;> rfl), bS1 HB GE167⟩
     ·rw [if_neg c6] at H
      have c6b0 : (((rd_T30 l0 x5_1).f0) == a1_0 && (((rd_T30 l0 x5_1).f1) == a1_1)) = false := by simpa using c6
      (try (have c6b1 : decide (((rd_T30 l0 x5_1).f0) = a1_0 && (((rd_T30 l0 x5_1).f1) == a1_1)) = false := by simpa using c6))
      (try (have c6b2 : (((rd_T30 l0 x5_1).f0) == a1_0 && (((rd_T30 l0 x5_1).f1) == a1_1)) = false := by simpa using c6))
      (try (have c6b3 : ¬ (((rd_T30 l0 x5_1).f0) = a1_0 && (((rd_T30 l0 x5_1).f1) == a1_1)) := by simpa using c6))
      clear c6
      have H' := Aside0.mk H
      clear H
      have p168 : 0 ≤ (x5_1 : Int) := of_decide_eq_true asmS
      have q168 : x5_1 < (l0.length : Int) := of_decide_eq_true asmS
      obtain ⟨ad168, e168, hx168_0, hx168_1⟩ := at_T30 HR0.out x5_1 p168 q168
      cases e168
      replace hx168_0 := (HB.out.cell (World.block_lt_of_cell? w _ hx168_0)).trans hx168_0
      replace hx168_1 := (HB.out.cell (World.block_lt_of_cell? w _ hx168_1)).trans hx168_1
      replace p168 := eq_true p168
      replace q168 := eq_true q168
      have hcz8_0 : wr.cell? ⟨gb167, 0, none⟩ = some (.int .i64 a1_0) := (blk_cell BK167.out 0).trans rfl
      have hcz8_1 : wr.cell? ⟨gb167, 1, none⟩ = some (.int .i64 a1_1) := (blk_cell BK167.out 1).trans rfl
      have hfz8_0 := blk_frozen BK167.out 0
      have hfz8_1 := blk_frozen BK167.out 1
      go_wp2
      repeat (go_quiet (fail); try go_wp2)
      go_roundg k1
      case measure => have := HK1.out; omega
      case rel => exact ⟨(wrap64 (x5_1 + 1)), (by first | rfl | (simp; done) | (simp [*]; done)), H', ⟨by have := HK1.out; omega⟩, ⟨by (with_reducible repeat (first | refine blk_drewN ?_ _ | refine blk_drew ?_ | refine blk_alloc ?_ _)); exact BK167.out⟩, ⟨bS1 HB GE167⟩⟩
    ·rw [if_neg c5] at H
     exact absurd H (by simp)
   ·rw [if_neg c4] at H
    have c4b0 : decide (x5_1 < (l0.length : Int)) = false := decide_eq_false c4
    clear c4
    obtain rfl := Option.some.inj H
    go_wp2
    repeat (go_quiet (fail); try go_wp2)
    go_ret
    exact ⟨by first | rfl | (simp [errW_none, errW_some] <;> rfl) | (simp [*, errW_none, errW_some] <;> rfl), bS1 HB GE167⟩
end Go.Proofs.Ytnopjjilpgekfaa.PCa
namespace Go.Proofs.Ytnopjjilpgekfaa.PCa
open Go.RowKit Go.Proofs.YtnopjjilpgekfaaW.PrintWords Go.Proofs.YtnopjjilpgekfaaW.PrintLast Go.Proofs.YtnopjjilpgekfaaW.PrintMore
attribute [local go_sem] max2_int min2_int max_two min_two max_three min_three max_four min_four
set_option linter.unusedVariables false
set_option linter.unusedSimpArgs false
def topiaryref01_Put.l0 : Nat → List (S30) → List (S30) → Bool → Int → Int → Int → Option ((List (S30)))
 | 0, _, _, _, _, _, _ => none
 | k + 1, x0, x5, x6, x7, x170000, x170001 => if x7 < (x0.length : Int) then (if x6 = true then (if 0 ≤ x7 then (if x5.length < 8796093022208 then (topiaryref01_Put.l0 k x0 (x5 ++ [(⟨(rd_T30 x0 x7).f0, (rd_T30 x0 x7).f1⟩ : S30)]) x6 (wrap64 (x7 + 1)) x170000 x170001) else (none)) else (none)) else (if 0 ≤ x7 then ((topiaryref01_Less.f x170000 x170001 ((rd_T30 x0 x7).f0) ((rd_T30 x0 x7).f1)).bind fun t179 => (if t179 = true then (if x5.length < 8796093022208 then ((some (x5 ++ [(⟨x170000, x170001⟩ : S30)] : List (S30))).bind fun y180 => (if y180.length < 8796093022208 then (topiaryref01_Put.l0 k x0 (y180 ++ [(⟨(rd_T30 x0 x7).f0, (rd_T30 x0 x7).f1⟩ : S30)]) true (wrap64 (x7 + 1)) x170000 x170001) else (none))) else (none)) else (if x5.length < 8796093022208 then (topiaryref01_Put.l0 k x0 (x5 ++ [(⟨(rd_T30 x0 x7).f0, (rd_T30 x0 x7).f1⟩ : S30)]) x6 (wrap64 (x7 + 1)) x170000 x170001) else (none)))) else (none))) else (if x6 = true then (some x5) else (if x5.length < 8796093022208 then (some (x5 ++ [(⟨x170000, x170001⟩ : S30)])) else (none)))
def topiaryref01_Put.f (k : Nat) (l0 : List (S30)) (a1_0 : Int) (a1_1 : Int) : Option ((List (S30))) := (topiaryref01_Has.f k l0 a1_0 a1_1).bind fun t170 => (if t170 = true then (some l0) else (topiaryref01_Put.l0 k l0 (([] : List (S30))) false 0 a1_0 a1_1))
theorem topiaryref01_Put.mono_l : ∀ k, (∀ y0 y1 y2 y3 y4 y5, LeO (topiaryref01_Put.l0 k y0 y1 y2 y3 y4 y5) (topiaryref01_Put.l0 (k + 1) y0 y1 y2 y3 y4 y5))
 | 0 => fun _ _ _ _ _ _ r h => by simp [topiaryref01_Put.l0] at h
 | k + 1 => by
  have ih0 := topiaryref01_Put.mono_l k
  ·intro y0 y1 y2 y3 y4 y5
   unfold topiaryref01_Put.l0
   repeat' first
   | (with_reducible exact ih0 _ _ _ _ _ _)
   | (with_reducible exact topiaryref01_Has.mono _ _ _ _)
   | (with_reducible exact LeO.refl _)
   | (with_reducible exact LeO.none _)
   | (with_reducible refine LeO.ite ?_ ?_)
   | (with_reducible refine LeO.bind ?_ (fun _ => ?_))
   | exact ih0 _ _ _ _ _ _
   | exact topiaryref01_Has.mono _ _ _ _
   | exact LeO.none _
   | refine LeO.ite ?_ ?_
   | refine LeO.bind ?_ (fun _ => ?_)
theorem topiaryref01_Put.mono : ∀ a0 a1 a2 k, LeO (topiaryref01_Put.f k a0 a1 a2) (topiaryref01_Put.f (k + 1) a0 a1 a2) := by
 intro a0 a1 a2 k
 have ih0 := topiaryref01_Put.mono_l k
 unfold topiaryref01_Put.f
 repeat' first
   | (with_reducible exact ih0 _ _ _ _ _ _)
   | (with_reducible exact topiaryref01_Has.mono _ _ _ _)
   | (with_reducible exact LeO.refl _)
   | (with_reducible exact LeO.none _)
   | (with_reducible refine LeO.ite ?_ ?_)
   | (with_reducible refine LeO.bind ?_ (fun _ => ?_))
   | exact ih0 _ _ _ _ _ _
   | exact topiaryref01_Has.mono _ _ _ _
   | exact LeO.none _
   | refine LeO.ite ?_ ?_
   | refine LeO.bind ?_ (fun _ => ?_)
def topiaryref01_Put.T8 : Bool × List (List Nat × List Nat) := (true, [([], []), ([0], [0]), ([1], [1]), ([2], [2]), ([2], [2]), ([2], [2]), ([4, 5, 2], [2, 4, 5]), ([6, 2], [2, 6]), ([3, 7, 2, 2], [2, 3, 7]), ([2, 8], [2, 8])])
def topiaryref01_Put.B8 : List Nat := [0, 1, 3, 7, 7, 7, 55, 119, 255, 511]
theorem topiaryref01_Put.tab8 : rtab .any (opsOf Try.f84 8) = topiaryref01_Put.T8 := by kernel_rfl
theorem topiaryref01_Put.bits8 : waitsOk topiaryref01_Put.T8.2 topiaryref01_Put.B8 = true := by kernel_rfl
set_option maxHeartbeats 8000000 in
set_option maxRecDepth 100000 in
theorem topiaryref01_Put.calls (k : Nat) (P0_ : Nat → Prop) (u9000_ : Value) (l0 : List (S30)) (a1_0 : Int) (a1_1 : Int) (r : List (S30)) (w0 w : World) (hB : Below w0.heap.size w0 w) (ho0 : Kd.R k30 30 w w0.heap.size P0_ u9000_ l0) (h : topiaryref01_Put.f k l0 a1_0 a1_1 = some r) :
  Calls Try.prog 84 #[u9000_, .agg #[.int .i64 a1_0, .int .i64 a1_1]] w fun e w' => ∃ v0_ : Value, e = .returned (v0_) ∧ Kd.R k30 30 w' w0.heap.size (fun k_ => (P0_ k_ ∨ w.heap.size ≤ k_)) v0_ r ∧ Below w0.heap.size w0 w' ∧ Kept w w' (fun k_ => P0_ k_) := by
 have hu30 := Try.underlying30
 have HO0 := Aside0.mk (show Kd.R k30 30 w w0.heap.size (fun k_ => (P0_ k_ ∨ w.heap.size ≤ k_)) u9000_ l0 from Kd.R_mono ho0 (fun k_ hk => (.inl hk)))
 have HK := Aside0.mk (Kept.refl w (fun k_ => P0_ k_))
 have HW0 := Aside0.mk hB.size
 have HB := Aside0.mk hB
 clear hB
 have H : ((topiaryref01_Has.f k l0 a1_0 a1_1).bind fun t170 => (if t170 = true then (some l0) else (topiaryref01_Put.l0 k l0 (([] : List (S30))) false 0 a1_0 a1_1))) = some r := h
 clear h
 replace H := Option.bind_eq_some_iff.mp H
 obtain ⟨t170, A30, H⟩ := H
 replace H : (if t170 = true then (some l0) else (topiaryref01_Put.l0 k l0 (([] : List (S30))) false 0 a1_0 a1_1)) = some r := H
 have A3 := Aside0.mk A30
 clear A30
 by_cases c4 : t170 = true
 ·subst c4
  have H1 : (some l0) = some r := by rw [if_pos rfl] at H; exact H
  clear H
  have H := H1
  clear H1
  obtain rfl := Option.some.inj H
  go_enter Try.func84, Try.ntmps84
  go_wp2_with (first | ((with_reducible refine gate_dst (N := 3) rfl ?_); refine boxE (N := 3) (cs := #[.int .i64 a1_0, .int .i64 a1_1]) (t := 30) ?_; intro gb169 hg w5 hbox hb; have BK169 := Aside0.mk (hbox); have GW169 := Aside0.mk ((by rw [hg]; exact (by first | exact HK.out.1 | exact (show Kept w _ (fun k_ => P0_ k_) from by repeat (first | (with_reducible first | exact HK.out | apply Kept.alloc | apply Kept.drewN | apply Kept.drew) | exact HK.out)).1) : w.heap.size ≤ gb169)); have GE169 := Aside0.mk ((by rw [hg]; exact (below_size (bS HB)) : w0.heap.size ≤ gb169)); replace HO0 := Aside0.mk (Kd.R_below (Kd.R_elderB (RS HO0) gb169 (Nat.le_of_eq hg.symm)) hb); replace HK := Aside0.mk (Kept.below (S := (fun k_ => P0_ k_)) (by repeat (first | (with_reducible first | exact HK.out | apply Kept.alloc | apply Kept.drewN | apply Kept.drew) | exact HK.out)) hb); replace HB := Aside0.mk (below_step (bS HB) hb); clear hb hbox hg; have hcz6_0 : w5.cell? ⟨gb169, 0, none⟩ = some (.int .i64 a1_0) := (blk_cell BK169.out 0).trans rfl; have hcz6_1 : w5.cell? ⟨gb169, 1, none⟩ = some (.int .i64 a1_1) := (blk_cell BK169.out 1).trans rfl; have hfz6_0 := blk_frozen BK169.out 0; have hfz6_1 := blk_frozen BK169.out 1; obtain ⟨Ao7, co7, eo7⟩ := Kd.R_slice HO0.out; subst eo7) | ((with_reducible refine gate_callee (f := 87) rfl ?_); refine goesL_ (some 10) rfl rfl Try.func87 (by kernel_rfl) rfl #[.slice Ao7 l0.length co7, .agg #[.int .i64 a1_0, .int .i64 a1_1]] rfl argS ?_; (with_reducible refine (topiaryref01_Has.calls k _ _ l0 a1_0 a1_1 true _ ?side1 ?side2 A3.out).mono ?_); (case side1 => exact CS (Kd.R_reads' HO0.out).2.2); (case side2 => exact (Kd.R_reads' HO0.out).2.1); rintro e w8 ⟨rfl, hb⟩; refine ⟨_, rfl, ?_⟩; replace HO0 := Aside0.mk (Kd.R_below (RS HO0) hb); replace BK169 := Aside0.mk (blk_below (blkS BK169) hb); replace HK := Aside0.mk (Kept.below (S := (fun k_ => P0_ k_)) (by repeat (first | (with_reducible first | exact HK.out | apply Kept.alloc | apply Kept.drewN | apply Kept.drew | refine Kept.setCell ?_ (.inr GW169.out) _) | exact HK.out)) hb); replace HB := Aside0.mk (below_step (bS1 HB GE169) hb); (try clear hb)))
  go_ret
  exact ⟨_, by first | rfl | (simp [errW_none, errW_some] <;> rfl) | (simp [*, errW_none, errW_some] <;> rfl), by (with_reducible repeat (first | apply Kd.R_alloc | apply Kd.R_drewN | apply Kd.R_drew)); exact Kd.R_mono HO0.out (fun _ hk => hk.1), bS1 HB GE169, by repeat (first | (with_reducible first | exact HK.out | apply Kept.alloc | apply Kept.drewN | apply Kept.drew | refine Kept.setCell ?_ (.inr GW169.out) _) | exact HK.out)⟩
 ·replace c4 := Bool.eq_false_iff.mpr c4
  subst c4
  have H1 : (topiaryref01_Put.l0 k l0 (([] : List (S30))) false 0 a1_0 a1_1) = some r := by rw [if_neg (show ¬ (false = true) by decide)] at H; exact H
  clear H
  have H := H1
  clear H1
  obtain ⟨y171, hy171⟩ : ∃ y_ : List (S30), y_ = (([] : List (S30))) := ⟨_, rfl⟩
  replace H : (topiaryref01_Put.l0 k l0 y171 false 0 a1_0 a1_1) = some r := by first | (rw [hy171]; with_reducible exact H) | (have H2_ := (Option.bind_some _ _).symm.trans H; rw [hy171]; with_reducible exact H2_) | (have H2_ := (Option.bind_some _ _).symm.trans H; with_reducible exact H2_) | with_reducible exact H | (rw [hy171]; exact H) | exact H
  have Ny171 := Aside0.mk hy171
  clear hy171
  have H' := Aside0.mk H
  clear H
  go_enter Try.func84, Try.ntmps84
  go_wp2_with (first | ((with_reducible refine gate_dst (N := 3) rfl ?_); refine boxE (N := 3) (cs := #[.int .i64 a1_0, .int .i64 a1_1]) (t := 30) ?_; intro gb169 hg w9 hbox hb; have BK169 := Aside0.mk (hbox); have GW169 := Aside0.mk ((by rw [hg]; exact (by first | exact HK.out.1 | exact (show Kept w _ (fun k_ => P0_ k_) from by repeat (first | (with_reducible first | exact HK.out | apply Kept.alloc | apply Kept.drewN | apply Kept.drew) | exact HK.out)).1) : w.heap.size ≤ gb169)); have GE169 := Aside0.mk ((by rw [hg]; exact (below_size (bS HB)) : w0.heap.size ≤ gb169)); replace HO0 := Aside0.mk (Kd.R_below (Kd.R_elderB (RS HO0) gb169 (Nat.le_of_eq hg.symm)) hb); replace HK := Aside0.mk (Kept.below (S := (fun k_ => P0_ k_)) (by repeat (first | (with_reducible first | exact HK.out | apply Kept.alloc | apply Kept.drewN | apply Kept.drew) | exact HK.out)) hb); replace HB := Aside0.mk (below_step (bS HB) hb); clear hb hbox hg; have hcz10_0 : w9.cell? ⟨gb169, 0, none⟩ = some (.int .i64 a1_0) := (blk_cell BK169.out 0).trans rfl; have hcz10_1 : w9.cell? ⟨gb169, 1, none⟩ = some (.int .i64 a1_1) := (blk_cell BK169.out 1).trans rfl; have hfz10_0 := blk_frozen BK169.out 0; have hfz10_1 := blk_frozen BK169.out 1; obtain ⟨Ao11, co11, eo11⟩ := Kd.R_slice HO0.out; subst eo11) | ((with_reducible refine gate_callee (f := 87) rfl ?_); refine goesL_ (some 10) rfl rfl Try.func87 (by kernel_rfl) rfl #[.slice Ao11 l0.length co11, .agg #[.int .i64 a1_0, .int .i64 a1_1]] rfl argS ?_; (with_reducible refine (topiaryref01_Has.calls k _ _ l0 a1_0 a1_1 false _ ?side1 ?side2 A3.out).mono ?_); (case side1 => exact CS (Kd.R_reads' HO0.out).2.2); (case side2 => exact (Kd.R_reads' HO0.out).2.1); rintro e w12 ⟨rfl, hb⟩; refine ⟨_, rfl, ?_⟩; replace HO0 := Aside0.mk (Kd.R_below (RS HO0) hb); replace BK169 := Aside0.mk (blk_below (blkS BK169) hb); replace HK := Aside0.mk (Kept.below (S := (fun k_ => P0_ k_)) (by repeat (first | (with_reducible first | exact HK.out | apply Kept.alloc | apply Kept.drewN | apply Kept.drew | refine Kept.setCell ?_ (.inr GW169.out) _) | exact HK.out)) hb); replace HB := Aside0.mk (below_step (bS1 HB GE169) hb); (try clear hb)) | ((with_reducible refine gate_dst (N := 12) rfl ?_); refine Kd.R_lit k30 _ 30 ?hg (N := 12) ?hd (xs := ([] : List (S30))) (inner := []) (ok := fun _ => True) (okp := fun _ => True) ?hr ?hp (fun _ hk => hk) trivial (Below.refl _ _) (Nat.le_refl _) (by simp) ?_; (case hd => rfl); (case hg => rfl); (case hr => first | (go_simp; done) | (go_simp; rfl)); (case hp => exact (Reps.none _ _)); intro v172 w13 ho14 hb hg_ hnew_; clear hg_ hnew_; (first | rw [← Ny171.out] at ho14 | (simp only [Int.reduceToNat] at ho14; rw [← Ny171.out] at ho14)); have HO173 := Aside0.mk (Kd.R_lower (Kd.R_newB (Kd.R_new' (Kd.R_newM (M := fun k_ => (P0_ k_ ∨ w.heap.size ≤ k_)) ho14 (by first | exact HK.out.1 | exact (show Kept w _ (fun k_ => P0_ k_) from by repeat (first | (with_reducible first | exact HK.out | apply Kept.alloc | apply Kept.drewN | apply Kept.drew | refine Kept.setCell ?_ (.inr GW169.out) _) | exact HK.out)).1) (fun k_ h_ => .inr h_)) (Kd.R_lt (RS HO0))) (g := gb169) (o := .cells #[.int .i64 a1_0, .int .i64 a1_1] 30 (0, 0)) (blkS BK169)) (below_size (bS1 HB GE169))); replace HO0 := Aside0.mk (Kd.R_elder' (RS HO0) (Kd.R_base ho14) hb); replace BK169 := Aside0.mk (blk_below (blkS BK169) hb); replace HK := Aside0.mk (Kept.below (S := (fun k_ => P0_ k_)) (by repeat (first | (with_reducible first | exact HK.out | apply Kept.alloc | apply Kept.drewN | apply Kept.drew | refine Kept.setCell ?_ (.inr GW169.out) _) | exact HK.out)) hb); replace HB := Aside0.mk (below_step (bS1 HB GE169) hb); clear hb ho14))
  go_loopg [5, 6, 7] k (fun kq v5 v6 v7 w' => ∃ (x5_1 : List (S30)) (x6_1 : Bool) (x7_1 : Int), v6 = .bool x6_1 ∧ v7 = .int .i64 x7_1 ∧ Aside0 (topiaryref01_Put.l0 kq l0 x5_1 x6_1 x7_1 a1_0 a1_1 = some r) ∧ Aside0 (kq ≤ k) ∧ Aside0 (Kd.R k30 30 w' w0.heap.size (fun k_ => (P0_ k_ ∨ w.heap.size ≤ k_) ∧ some k_ ≠ (v5 : Value).ownBlock ∧ k_ ≠ gb169) (.slice Ao11 l0.length co11) l0) ∧ Aside0 (Kd.R k30 30 w' w0.heap.size (fun k_ => (P0_ k_ ∨ w.heap.size ≤ k_) ∧ some k_ ≠ ((.slice Ao11 l0.length co11) : Value).ownBlock ∧ k_ ≠ gb169) v5 x5_1) ∧ Aside0 (w'.heap[gb169]? = some (.cells #[.int .i64 a1_0, .int .i64 a1_1] 30 (0, 0))) ∧ Aside0 (Kept w w' (fun k_ => P0_ k_)) ∧ Aside0 (Below w0.heap.size w0 w'))
  case atStart => exact ⟨(y171), (false), (0), (by first | rfl | (simp; done) | (simp [*]; done)), (by first | rfl | (simp; done) | (simp [*]; done)), H', ⟨Nat.le_refl _⟩, ⟨by (with_reducible repeat (first | apply Kd.R_alloc | apply Kd.R_drewN | apply Kd.R_drew)); exact Kd.R_mono HO0.out (fun _ hk => ⟨hk.1.1, ⟨hk.2, hk.1.2⟩⟩)⟩, ⟨by (with_reducible repeat (first | apply Kd.R_alloc | apply Kd.R_drewN | apply Kd.R_drew)); exact Kd.R_mono HO173.out (fun _ hk => ⟨hk.1.1.1, ⟨hk.1.2, hk.2⟩⟩)⟩, ⟨by (with_reducible repeat (first | refine blk_drewN ?_ _ | refine blk_drew ?_ | refine blk_alloc ?_ _)); exact BK169.out⟩, ⟨by repeat (first | (with_reducible first | exact HK.out | apply Kept.alloc | apply Kept.drewN | apply Kept.drew | refine Kept.setCell ?_ (.inr GW169.out) _) | exact HK.out)⟩, ⟨bS1 HB GE169⟩⟩
  case round =>
   clear H'
   (try clear p2); (try clear c4); (try clear c8); (try clear hcz10_0); (try clear hcz10_1); (try clear hcz6_0); (try clear hcz6_1); (try clear hfz10_0); (try clear hfz10_1); (try clear hfz6_0); (try clear hfz6_1)
   obtain ⟨x5_1, x6_1, x7_1, rfl, rfl, HA, HK1, HO_0, HO_5, BK169, HK, HB⟩ := hrel
   cases gk with
   | zero => exact absurd HA.out (by simp [topiaryref01_Put.l0])
   | succ k1 =>
    have H := HA.out
    clear HA
    simp only [topiaryref01_Put.l0] at H
    by_cases c15 : x7_1 < (l0.length : Int)
    ·rw [if_pos c15] at H
     have c15b0 : decide (x7_1 < (l0.length : Int)) = true := decide_eq_true c15
     clear c15
     by_cases c16 : x6_1 = true
     ·subst c16
      have H1 : (if 0 ≤ x7_1 then (if x5_1.length < 8796093022208 then (topiaryref01_Put.l0 k1 l0 (x5_1 ++ [(⟨(rd_T30 l0 x7_1).f0, (rd_T30 l0 x7_1).f1⟩ : S30)]) true (wrap64 (x7_1 + 1)) a1_0 a1_1) else (none)) else (none)) = some r := by rw [if_pos rfl] at H; exact H
      clear H
      have H := H1
      clear H1
      by_cases c17 : 0 ≤ x7_1
      ·rw [if_pos c17] at H
       have c17b0 : decide (0 ≤ x7_1) = true := decide_eq_true c17
       clear c17
       by_cases c18 : x5_1.length < 8796093022208
       ·rw [if_pos c18] at H
        have LMc18 := Aside0.mk c18
        clear c18
        obtain ⟨y175, hy175⟩ : ∃ y_ : List (S30), y_ = (x5_1 ++ [(⟨(rd_T30 l0 x7_1).f0, (rd_T30 l0 x7_1).f1⟩ : S30)]) := ⟨_, rfl⟩
        replace H : (topiaryref01_Put.l0 k1 l0 y175 true (wrap64 (x7_1 + 1)) a1_0 a1_1) = some r := by first | (rw [hy175]; with_reducible exact H) | (have H2_ := (Option.bind_some _ _).symm.trans H; rw [hy175]; with_reducible exact H2_) | (have H2_ := (Option.bind_some _ _).symm.trans H; with_reducible exact H2_) | with_reducible exact H | (rw [hy175]; exact H) | exact H
        have Ny175 := Aside0.mk hy175
        clear hy175
        have H' := Aside0.mk H
        clear H
        try go_wp2
        replace HO_0 := Aside0.mk (Kd.R_drew HO_0.out)
        replace HO_5 := Aside0.mk (Kd.R_drew HO_5.out)
        replace BK169 := Aside0.mk (blk_drew BK169.out)
        replace HK := Aside0.mk (Kept.drew HK.out)
        replace HB := Aside0.mk (below_drew1 HB.out)
        refine start_ (n := 10) (S := fun w' => True) (ds := []) #[false, false, false, false, false, false, false, false, false, false] (by kernel_rfl) rfl rfl trivial (fun hHeld => ?_); refine with_tabW topiaryref01_Put.tab8 topiaryref01_Put.bits8 (fun HT_ HW_ => ?_)
        generalize wr.drew = w19 at HO_0 HO_5 BK169 HK HB hHeld ⊢
        refine pureT (i := 0) (N := some 19) HT_ ?_
        refine pureT (i := 1) (N := some 20) HT_ ?_
        refine pureT (i := 2) (N := some 21) HT_ ?_
        refine pureV (i := 3) (N := some 22) HT_ ?_
        refine pureV (i := 4) (N := some 23) HT_ ?_
        refine pureV (i := 5) (N := some 24) HT_ ?_
        refine pureV (i := 6) (N := some 25) HT_ ?_
        refine pureV (i := 7) (N := some 26) HT_ ?_
        refine pureV (i := 8) (N := some 27) HT_ ?_
        refine pureT (i := 9) (N := some 28) HT_ ?_
        refine done_ (done_of HT_.out (by kernel_rfl)) ?_
        have p174 : 0 ≤ (x7_1 : Int) := of_decide_eq_true asmS
        have q174 : x7_1 < (l0.length : Int) := of_decide_eq_true asmS
        obtain ⟨ad174, e174, hx174_0, hx174_1⟩ := at_T30 (Kd.R_reads' HO_0.out).2.2 x7_1 p174 q174
        cases e174
        replace p174 := eq_true p174
        replace q174 := eq_true q174
        try go_wp2_with (first | ((with_reducible refine gate_builtin (b := .append) (xs := #[.tmp 33, .tmp 38]) rfl ?_); at_builtin; refine Kd.R_append k30 (w0 := w0) w0.heap.size rfl (.tmp 33) (.tmp 38) 99 30 (.agg #[(.int .i64 0), (.int .i64 0)]) 16 rfl Try.underlying99 info30 rfl (by decide) (by omega) u5 x5_1 (⟨(rd_T30 l0 x7_1).f0, (rd_T30 l0 x7_1).f1⟩ : S30) [.int .i64 ((rd_T30 l0 x7_1).f0), .int .i64 ((rd_T30 l0 x7_1).f1)] (fun k_ => (P0_ k_ ∨ w.heap.size ≤ k_) ∧ some k_ ≠ (.slice (some ad174) l0.length co11 : Value).ownBlock ∧ k_ ≠ gb169) (fun _ => False) rfl rfl ?aP (fun _ hk => hk.elim) ?aF ?aO ?aB ?aS ?aL ?_; (case aP => exact k30_mkM _ _ _ (⟨(rd_T30 l0 x7_1).f0, (rd_T30 l0 x7_1).f1⟩ : S30)); (case aB => exact (bS1 HB GE169)); (case aF => exact (fun k_ hk => ⟨(.inr (Nat.le_trans (by first | exact HK.out.1 | exact (show Kept w _ (fun k_ => P0_ k_) from by repeat (first | (with_reducible first | exact HK.out | apply Kept.alloc | apply Kept.drewN | apply Kept.drew | refine Kept.setCell ?_ (.inr GW169.out) _) | exact HK.out)).1) hk)), Kd.fresh' (Kd.R_lt (RS HO_0)) k_ hk, Kd.freshB (g := gb169) (o := .cells #[.int .i64 a1_0, .int .i64 a1_1] 30 (0, 0)) (blkS BK169) k_ hk⟩)); (case aO => exact (RS HO_5)); (case aS => exact (below_size (bS1 HB GE169))); (case aL => have := LMc18.out; omega); intro v176 w20 ho hb hg hat; rw [← Ny175.out] at ho; have n0_ := Aside0.mk (Kd.R_after (ok := (fun k_ => (P0_ k_ ∨ w.heap.size ≤ k_) ∧ k_ ≠ gb169)) (by (with_reducible repeat (first | apply Kd.R_alloc | apply Kd.R_drewN | apply Kd.R_drew)); exact Kd.R_mono HO_0.out (fun _ hk => ⟨⟨hk.1, hk.2.2⟩, hk.2.1⟩)) hg hat); have n1_ := Aside0.mk (blk_grown (blkS BK169) hg (Kd.R_away HO_5.out (fun _ hk => hk.2.2))); have n2_ := Aside0.mk (hb); have n3_ := Aside0.mk (Kept.of_grown (S := (fun k_ => P0_ k_)) hg (by repeat (first | (with_reducible first | exact HK.out | apply Kept.alloc | apply Kept.drewN | apply Kept.drew | refine Kept.setCell ?_ (.inr GW169.out) _) | exact HK.out)) (fun k_ e_ => (HO_5.out.1 k_ e_).1)); have n4_ := Aside0.mk (ho); clear HO_0; clear BK169; clear HB; clear HK; clear HO_5; have HO_0 := n0_; have BK169 := n1_; have HB := n2_; have HK := n3_; have HO177 := n4_; clear n0_ n1_ n2_ n3_ n4_; clear ho hb hg hat))
        go_roundg k1
        case measure => have := HK1.out; omega
        case rel => exact ⟨(y175), (true), (wrap64 (x7_1 + 1)), (by first | rfl | (simp; done) | (simp [*]; done)), (by first | rfl | (simp; done) | (simp [*]; done)), H', ⟨by have := HK1.out; omega⟩, ⟨by (with_reducible repeat (first | apply Kd.R_alloc | apply Kd.R_drewN | apply Kd.R_drew)); exact Kd.R_mono HO_0.out (fun _ hk => ⟨hk.1.1, ⟨hk.2, hk.1.2⟩⟩)⟩, ⟨by (with_reducible repeat (first | apply Kd.R_alloc | apply Kd.R_drewN | apply Kd.R_drew)); exact HO177.out⟩, ⟨by (with_reducible repeat (first | refine blk_drewN ?_ _ | refine blk_drew ?_ | refine blk_alloc ?_ _)); exact BK169.out⟩, ⟨by repeat (first | (with_reducible first | exact HK.out | apply Kept.alloc | apply Kept.drewN | apply Kept.drew | refine Kept.setCell ?_ (.inr GW169.out) _) | exact HK.out)⟩, ⟨bS1 HB GE169⟩⟩
       ·rw [if_neg c18] at H
        exact absurd H (by simp)
      ·rw [if_neg c17] at H
       exact absurd H (by simp)
     ·replace c16 := Bool.eq_false_iff.mpr c16
      subst c16
      have H1 : (if 0 ≤ x7_1 then ((topiaryref01_Less.f a1_0 a1_1 ((rd_T30 l0 x7_1).f0) ((rd_T30 l0 x7_1).f1)).bind fun t179 => (if t179 = true then (if x5_1.length < 8796093022208 then ((some (x5_1 ++ [(⟨a1_0, a1_1⟩ : S30)] : List (S30))).bind fun y180 => (if y180.length < 8796093022208 then (topiaryref01_Put.l0 k1 l0 (y180 ++ [(⟨(rd_T30 l0 x7_1).f0, (rd_T30 l0 x7_1).f1⟩ : S30)]) true (wrap64 (x7_1 + 1)) a1_0 a1_1) else (none))) else (none)) else (if x5_1.length < 8796093022208 then (topiaryref01_Put.l0 k1 l0 (x5_1 ++ [(⟨(rd_T30 l0 x7_1).f0, (rd_T30 l0 x7_1).f1⟩ : S30)]) false (wrap64 (x7_1 + 1)) a1_0 a1_1) else (none)))) else (none)) = some r := by rw [if_neg (show ¬ (false = true) by decide)] at H; exact H
      clear H
      have H := H1
      clear H1
      by_cases c21 : 0 ≤ x7_1
      ·rw [if_pos c21] at H
       have c21b0 : decide (0 ≤ x7_1) = true := decide_eq_true c21
       clear c21
       replace H := Option.bind_eq_some_iff.mp H
       obtain ⟨t179, A220, H⟩ := H
       replace H : (if t179 = true then (if x5_1.length < 8796093022208 then ((some (x5_1 ++ [(⟨a1_0, a1_1⟩ : S30)] : List (S30))).bind fun y180 => (if y180.length < 8796093022208 then (topiaryref01_Put.l0 k1 l0 (y180 ++ [(⟨(rd_T30 l0 x7_1).f0, (rd_T30 l0 x7_1).f1⟩ : S30)]) true (wrap64 (x7_1 + 1)) a1_0 a1_1) else (none))) else (none)) else (if x5_1.length < 8796093022208 then (topiaryref01_Put.l0 k1 l0 (x5_1 ++ [(⟨(rd_T30 l0 x7_1).f0, (rd_T30 l0 x7_1).f1⟩ : S30)]) false (wrap64 (x7_1 + 1)) a1_0 a1_1) else (none))) = some r := H
       have A22 := Aside0.mk A220
       clear A220
       by_cases c23 : t179 = true
       ·subst c23
        have H1 : (if x5_1.length < 8796093022208 then ((some (x5_1 ++ [(⟨a1_0, a1_1⟩ : S30)] : List (S30))).bind fun y180 => (if y180.length < 8796093022208 then (topiaryref01_Put.l0 k1 l0 (y180 ++ [(⟨(rd_T30 l0 x7_1).f0, (rd_T30 l0 x7_1).f1⟩ : S30)]) true (wrap64 (x7_1 + 1)) a1_0 a1_1) else (none))) else (none)) = some r := by rw [if_pos rfl] at H; exact H
        clear H
        have H := H1
        clear H1
        by_cases c24 : x5_1.length < 8796093022208
        ·rw [if_pos c24] at H
         have LMc24 := Aside0.mk c24
         clear c24
         obtain ⟨y180, hy180⟩ : ∃ y_ : List (S30), y_ = (x5_1 ++ [(⟨a1_0, a1_1⟩ : S30)]) := ⟨_, rfl⟩
         replace H : (if y180.length < 8796093022208 then (topiaryref01_Put.l0 k1 l0 (y180 ++ [(⟨(rd_T30 l0 x7_1).f0, (rd_T30 l0 x7_1).f1⟩ : S30)]) true (wrap64 (x7_1 + 1)) a1_0 a1_1) else (none)) = some r := by first | (rw [hy180]; with_reducible exact H) | (have H2_ := (Option.bind_some _ _).symm.trans H; rw [hy180]; with_reducible exact H2_) | (have H2_ := (Option.bind_some _ _).symm.trans H; with_reducible exact H2_) | with_reducible exact H | (rw [hy180]; exact H) | exact H
         have Ny180 := Aside0.mk hy180
         clear hy180
         by_cases c25 : y180.length < 8796093022208
         ·rw [if_pos c25] at H
          have LMc25 := Aside0.mk c25
          clear c25
          obtain ⟨y184, hy184⟩ : ∃ y_ : List (S30), y_ = (y180 ++ [(⟨(rd_T30 l0 x7_1).f0, (rd_T30 l0 x7_1).f1⟩ : S30)]) := ⟨_, rfl⟩
          replace H : (topiaryref01_Put.l0 k1 l0 y184 true (wrap64 (x7_1 + 1)) a1_0 a1_1) = some r := by first | (rw [hy184]; with_reducible exact H) | (have H2_ := (Option.bind_some _ _).symm.trans H; rw [hy184]; with_reducible exact H2_) | (have H2_ := (Option.bind_some _ _).symm.trans H; with_reducible exact H2_) | with_reducible exact H | (rw [hy184]; exact H) | exact H
          have Ny184 := Aside0.mk hy184
          clear hy184
          have H' := Aside0.mk H
          clear H
          try go_wp2
          replace HO_0 := Aside0.mk (Kd.R_drew HO_0.out)
          replace HO_5 := Aside0.mk (Kd.R_drew HO_5.out)
          replace BK169 := Aside0.mk (blk_drew BK169.out)
          replace HK := Aside0.mk (Kept.drew HK.out)
          replace HB := Aside0.mk (below_drew1 HB.out)
          have p178 : 0 ≤ (x7_1 : Int) := of_decide_eq_true asmS
          have q178 : x7_1 < (l0.length : Int) := of_decide_eq_true asmS
          obtain ⟨ad178, e178, hx178_0, hx178_1⟩ := at_T30 (Kd.R_reads' HO_0.out).2.2 x7_1 p178 q178
          cases e178
          replace p178 := eq_true p178
          replace q178 := eq_true q178
          refine startS (n := 10) (S := fun w' => w'.cell? ⟨gb169, 0, none⟩ = some (.int .i64 a1_0) ∧ w'.cell? ⟨gb169, 1, none⟩ = some (.int .i64 a1_1) ∧ w'.cell? (ad178.add ((x7_1).toNat * 2)) = some (.int .i64 ((rd_T30 l0 x7_1).f0)) ∧ w'.cell? ⟨(ad178.add ((x7_1).toNat * 2)).block, (ad178.add ((x7_1).toNat * 2)).off + 1, none⟩ = some (.int .i64 ((rd_T30 l0 x7_1).f1))) (ds := []) ⟨(blk_cell BK169.out 0).trans rfl, (blk_cell BK169.out 1).trans rfl, hx178_0, hx178_1⟩ (fun hHeld => ?_); refine with_tabW topiaryref01_Put.tab8 topiaryref01_Put.bits8 (fun HT_ HW_ => ?_)
          generalize wr.drew = w26 at HO_0 HO_5 BK169 HK HB hx178_0 hx178_1 hHeld ⊢
          refine pureT (i := 0) (N := some 19) HT_ ?_
          refine pureT (i := 1) (N := some 20) HT_ ?_
          refine pureT (i := 2) (N := some 21) HT_ ?_
          refine pureT (i := 4) (N := some 23) HT_ ?_
          refine pureT (i := 5) (N := some 24) HT_ ?_
          refine pureT (i := 6) (N := some 25) HT_ ?_
          refine takeS (i := 3) (N := some 22) (v := ?_) HT_ HW_ hHeld ?_ ?_
          rotate_left
          ·rintro w' ⟨s0, s1, s2, s3⟩
           go_simp
           with_reducible rfl
          refine normS (N := some 22) ?_
          refine takeS (i := 7) (N := some 26) (v := ?_) HT_ HW_ hHeld ?_ ?_
          rotate_left
          ·rintro w' ⟨s0, s1, s2, s3⟩
           go_simp
           with_reducible rfl
          refine normS (N := some 26) ?_
          refine oneS (i := 8) (N := some 27) HT_ (fun K hK => ?_)
          refine goes_ Try.func60 (by kernel_rfl) rfl #[.agg #[.int .i64 a1_0, .int .i64 a1_1], .agg #[.int .i64 ((rd_T30 l0 x7_1).f0), .int .i64 ((rd_T30 l0 x7_1).f1)]] (by rfl) rfl rfl argS ?_
          with_reducible refine (topiaryref01_Less.calls a1_0 a1_1 ((rd_T30 l0 x7_1).f0) ((rd_T30 l0 x7_1).f1) true _ A22.out).mono ?_
          rintro e w27 ⟨rfl, hb⟩
          have HS2_ := (hb.cell (World.block_lt_of_cell? _ _ (hHeld.2.2.1))).trans (hHeld.2.2.1)
          have HS3_ := (hb.cell (World.block_lt_of_cell? _ _ (hHeld.2.2.2))).trans (hHeld.2.2.2)
          refine ⟨_, rfl, ?_⟩
          replace HO_0 := Aside0.mk (Kd.R_below (RS HO_0) hb)
          replace HO_5 := Aside0.mk (Kd.R_below (RS HO_5) hb)
          replace BK169 := Aside0.mk (blk_below (blkS BK169) hb)
          replace HK := Aside0.mk (Kept.below (S := (fun k_ => P0_ k_)) (by repeat (first | (with_reducible first | exact HK.out | apply Kept.alloc | apply Kept.drewN | apply Kept.drew | refine Kept.setCell ?_ (.inr GW169.out) _) | exact HK.out)) hb)
          replace HB := Aside0.mk (below_step (bS1 HB GE169) hb)
          (try clear hb)
          refine hK.out _ _ ⟨(blk_cell BK169.out 0).trans rfl, (blk_cell BK169.out 1).trans rfl, HS2_, HS3_⟩ (fun hHeld => ?_)
          clear hK K
          refine normS (N := (some 27)) ?_
          refine pureT (i := 9) (N := some 28) HT_ ?_
          refine done_ (done_of HT_.out (by kernel_rfl)) ?_
          have hcz28_0 : w27.cell? ⟨gb169, 0, none⟩ = some (.int .i64 a1_0) := (blk_cell BK169.out 0).trans rfl
          have hcz28_1 : w27.cell? ⟨gb169, 1, none⟩ = some (.int .i64 a1_1) := (blk_cell BK169.out 1).trans rfl
          have hfz28_0 := blk_frozen BK169.out 0
          have hfz28_1 := blk_frozen BK169.out 1
          try go_wp2_with (first | ((with_reducible refine gate_builtin (b := .append) (xs := #[.tmp 29, .tmp 31]) rfl ?_); at_builtin; refine Kd.R_append k30 (w0 := w0) w0.heap.size rfl (.tmp 29) (.tmp 31) 99 30 (.agg #[(.int .i64 0), (.int .i64 0)]) 16 rfl Try.underlying99 info30 rfl (by decide) (by omega) u5 x5_1 (⟨a1_0, a1_1⟩ : S30) [.int .i64 a1_0, .int .i64 a1_1] (fun k_ => (P0_ k_ ∨ w.heap.size ≤ k_) ∧ some k_ ≠ (.slice (some ad178) l0.length co11 : Value).ownBlock ∧ k_ ≠ gb169) (fun _ => False) rfl rfl ?aP (fun _ hk => hk.elim) ?aF ?aO ?aB ?aS ?aL ?_; (case aP => exact k30_mkM _ _ _ (⟨a1_0, a1_1⟩ : S30)); (case aB => exact (bS1 HB GE169)); (case aF => exact (fun k_ hk => ⟨(.inr (Nat.le_trans (by first | exact HK.out.1 | exact (show Kept w _ (fun k_ => P0_ k_) from by repeat (first | (with_reducible first | exact HK.out | apply Kept.alloc | apply Kept.drewN | apply Kept.drew | refine Kept.setCell ?_ (.inr GW169.out) _) | exact HK.out)).1) hk)), Kd.fresh' (Kd.R_lt (RS HO_0)) k_ hk, Kd.freshB (g := gb169) (o := .cells #[.int .i64 a1_0, .int .i64 a1_1] 30 (0, 0)) (blkS BK169) k_ hk⟩)); (case aO => exact (RS HO_5)); (case aS => exact (below_size (bS1 HB GE169))); (case aL => have := LMc24.out; omega); intro v181 w29 ho hb hg hat; rw [← Ny180.out] at ho; have n0_ := Aside0.mk (Kd.R_after (ok := (fun k_ => (P0_ k_ ∨ w.heap.size ≤ k_) ∧ k_ ≠ gb169)) (by (with_reducible repeat (first | apply Kd.R_alloc | apply Kd.R_drewN | apply Kd.R_drew)); exact Kd.R_mono HO_0.out (fun _ hk => ⟨⟨hk.1, hk.2.2⟩, hk.2.1⟩)) hg hat); have n1_ := Aside0.mk (blk_grown (blkS BK169) hg (Kd.R_away HO_5.out (fun _ hk => hk.2.2))); have n2_ := Aside0.mk (hb); have n3_ := Aside0.mk (Kept.of_grown (S := (fun k_ => P0_ k_)) hg (by repeat (first | (with_reducible first | exact HK.out | apply Kept.alloc | apply Kept.drewN | apply Kept.drew | refine Kept.setCell ?_ (.inr GW169.out) _) | exact HK.out)) (fun k_ e_ => (HO_5.out.1 k_ e_).1)); have n4_ := Aside0.mk (ho); clear HO_0; clear BK169; clear HB; clear HK; clear HO_5; have HO_0 := n0_; have BK169 := n1_; have HB := n2_; have HK := n3_; have HO182 := n4_; clear n0_ n1_ n2_ n3_ n4_; clear ho hb hg hat; have p183 : 0 ≤ (x7_1 : Int) := of_decide_eq_true asmS; have q183 : x7_1 < (l0.length : Int) := of_decide_eq_true asmS; obtain ⟨ad183, e183, hx183_0, hx183_1⟩ := at_T30 (Kd.R_reads' HO_0.out).2.2 x7_1 p183 q183; obtain rfl : ad178 = ad183 := (by injection e183); replace p183 := eq_true p183; replace q183 := eq_true q183) | ((with_reducible refine gate_builtin (b := .append) (xs := #[.tmp 33, .tmp 38]) rfl ?_); at_builtin; refine Kd.R_append k30 (w0 := w0) w0.heap.size rfl (.tmp 33) (.tmp 38) 99 30 (.agg #[(.int .i64 0), (.int .i64 0)]) 16 rfl Try.underlying99 info30 rfl (by decide) (by omega) v181 y180 (⟨(rd_T30 l0 x7_1).f0, (rd_T30 l0 x7_1).f1⟩ : S30) [.int .i64 ((rd_T30 l0 x7_1).f0), .int .i64 ((rd_T30 l0 x7_1).f1)] (fun k_ => (P0_ k_ ∨ w.heap.size ≤ k_) ∧ some k_ ≠ (.slice (some ad178) l0.length co11 : Value).ownBlock ∧ k_ ≠ gb169) (fun _ => False) rfl rfl ?aP (fun _ hk => hk.elim) ?aF ?aO ?aB ?aS ?aL ?_; (case aP => exact k30_mkM _ _ _ (⟨(rd_T30 l0 x7_1).f0, (rd_T30 l0 x7_1).f1⟩ : S30)); (case aB => exact (bS1 HB GE169)); (case aF => exact (fun k_ hk => ⟨(.inr (Nat.le_trans (by first | exact HK.out.1 | exact (show Kept w _ (fun k_ => P0_ k_) from by repeat (first | (with_reducible first | exact HK.out | apply Kept.alloc | apply Kept.drewN | apply Kept.drew | refine Kept.setCell ?_ (.inr GW169.out) _) | exact HK.out)).1) hk)), Kd.fresh' (Kd.R_lt (RS HO_0)) k_ hk, Kd.freshB (g := gb169) (o := .cells #[.int .i64 a1_0, .int .i64 a1_1] 30 (0, 0)) (blkS BK169) k_ hk⟩)); (case aO => exact (RS HO182)); (case aS => exact (below_size (bS1 HB GE169))); (case aL => have := LMc25.out; omega); intro v185 w30 ho hb hg hat; rw [← Ny184.out] at ho; have n0_ := Aside0.mk (Kd.R_after (ok := (fun k_ => (P0_ k_ ∨ w.heap.size ≤ k_) ∧ k_ ≠ gb169)) (RS HO_0) hg hat); have n1_ := Aside0.mk (blk_grown (blkS BK169) hg (Kd.R_away HO182.out (fun _ hk => hk.2.2))); have n2_ := Aside0.mk (hb); have n3_ := Aside0.mk (Kept.of_grown (S := (fun k_ => P0_ k_)) hg (by repeat (first | (with_reducible first | exact HK.out | apply Kept.alloc | apply Kept.drewN | apply Kept.drew | refine Kept.setCell ?_ (.inr GW169.out) _) | exact HK.out)) (fun k_ e_ => (HO182.out.1 k_ e_).1)); have n4_ := Aside0.mk (ho); clear HO_0; clear BK169; clear HB; clear HK; clear HO182; have HO_0 := n0_; have BK169 := n1_; have HB := n2_; have HK := n3_; have HO186 := n4_; clear n0_ n1_ n2_ n3_ n4_; clear ho hb hg hat))
          go_roundg k1
          case measure => have := HK1.out; omega
          case rel => exact ⟨(y184), (true), (wrap64 (x7_1 + 1)), (by first | rfl | (simp; done) | (simp [*]; done)), (by first | rfl | (simp; done) | (simp [*]; done)), H', ⟨by have := HK1.out; omega⟩, ⟨by (with_reducible repeat (first | apply Kd.R_alloc | apply Kd.R_drewN | apply Kd.R_drew)); exact Kd.R_mono HO_0.out (fun _ hk => ⟨hk.1.1, ⟨hk.2, hk.1.2⟩⟩)⟩, ⟨by (with_reducible repeat (first | apply Kd.R_alloc | apply Kd.R_drewN | apply Kd.R_drew)); exact HO186.out⟩, ⟨by (with_reducible repeat (first | refine blk_drewN ?_ _ | refine blk_drew ?_ | refine blk_alloc ?_ _)); exact BK169.out⟩, ⟨by repeat (first | (with_reducible first | exact HK.out | apply Kept.alloc | apply Kept.drewN | apply Kept.drew | refine Kept.setCell ?_ (.inr GW169.out) _) | exact HK.out)⟩, ⟨bS1 HB GE169⟩⟩
         ·rw [if_neg c25] at H
          exact absurd H (by simp)
        ·rw [if_neg c24] at H
         exact absurd H (by simp)
       ·replace c23 := Bool.eq_false_iff.mpr c23
        subst c23
        have H1 : (if x5_1.length < 8796093022208 then (topiaryref01_Put.l0 k1 l0 (x5_1 ++ [(⟨(rd_T30 l0 x7_1).f0, (rd_T30 l0 x7_1).f1⟩ : S30)]) false (wrap64 (x7_1 + 1)) a1_0 a1_1) else (none)) = some r := by rw [if_neg (show ¬ (false = true) by decide)] at H; exact H
        clear H
        have H := H1
        clear H1
        by_cases c31 : x5_1.length < 8796093022208
        ·rw [if_pos c31] at H
         have LMc31 := Aside0.mk c31
         clear c31
         obtain ⟨y188, hy188⟩ : ∃ y_ : List (S30), y_ = (x5_1 ++ [(⟨(rd_T30 l0 x7_1).f0, (rd_T30 l0 x7_1).f1⟩ : S30)]) := ⟨_, rfl⟩
         replace H : (topiaryref01_Put.l0 k1 l0 y188 false (wrap64 (x7_1 + 1)) a1_0 a1_1) = some r := by first | (rw [hy188]; with_reducible exact H) | (have H2_ := (Option.bind_some _ _).symm.trans H; rw [hy188]; with_reducible exact H2_) | (have H2_ := (Option.bind_some _ _).symm.trans H; with_reducible exact H2_) | with_reducible exact H | (rw [hy188]; exact H) | exact H
         have Ny188 := Aside0.mk hy188
         clear hy188
         have H' := Aside0.mk H
         clear H
         try go_wp2
         replace HO_0 := Aside0.mk (Kd.R_drew HO_0.out)
         replace HO_5 := Aside0.mk (Kd.R_drew HO_5.out)
         replace BK169 := Aside0.mk (blk_drew BK169.out)
         replace HK := Aside0.mk (Kept.drew HK.out)
         replace HB := Aside0.mk (below_drew1 HB.out)
         have p178 : 0 ≤ (x7_1 : Int) := of_decide_eq_true asmS
         have q178 : x7_1 < (l0.length : Int) := of_decide_eq_true asmS
         obtain ⟨ad178, e178, hx178_0, hx178_1⟩ := at_T30 (Kd.R_reads' HO_0.out).2.2 x7_1 p178 q178
         cases e178
         replace p178 := eq_true p178
         replace q178 := eq_true q178
         refine startS (n := 10) (S := fun w' => w'.cell? ⟨gb169, 0, none⟩ = some (.int .i64 a1_0) ∧ w'.cell? ⟨gb169, 1, none⟩ = some (.int .i64 a1_1) ∧ w'.cell? (ad178.add ((x7_1).toNat * 2)) = some (.int .i64 ((rd_T30 l0 x7_1).f0)) ∧ w'.cell? ⟨(ad178.add ((x7_1).toNat * 2)).block, (ad178.add ((x7_1).toNat * 2)).off + 1, none⟩ = some (.int .i64 ((rd_T30 l0 x7_1).f1))) (ds := []) ⟨(blk_cell BK169.out 0).trans rfl, (blk_cell BK169.out 1).trans rfl, hx178_0, hx178_1⟩ (fun hHeld => ?_); refine with_tabW topiaryref01_Put.tab8 topiaryref01_Put.bits8 (fun HT_ HW_ => ?_)
         generalize wr.drew = w32 at HO_0 HO_5 BK169 HK HB hx178_0 hx178_1 hHeld ⊢
         refine pureT (i := 0) (N := some 19) HT_ ?_
         refine pureT (i := 1) (N := some 20) HT_ ?_
         refine pureT (i := 2) (N := some 21) HT_ ?_
         refine pureT (i := 4) (N := some 23) HT_ ?_
         refine pureT (i := 5) (N := some 24) HT_ ?_
         refine pureT (i := 6) (N := some 25) HT_ ?_
         refine takeS (i := 3) (N := some 22) (v := ?_) HT_ HW_ hHeld ?_ ?_
         rotate_left
         ·rintro w' ⟨s0, s1, s2, s3⟩
          go_simp
          with_reducible rfl
         refine normS (N := some 22) ?_
         refine takeS (i := 7) (N := some 26) (v := ?_) HT_ HW_ hHeld ?_ ?_
         rotate_left
         ·rintro w' ⟨s0, s1, s2, s3⟩
          go_simp
          with_reducible rfl
         refine normS (N := some 26) ?_
         refine oneS (i := 8) (N := some 27) HT_ (fun K hK => ?_)
         refine goes_ Try.func60 (by kernel_rfl) rfl #[.agg #[.int .i64 a1_0, .int .i64 a1_1], .agg #[.int .i64 ((rd_T30 l0 x7_1).f0), .int .i64 ((rd_T30 l0 x7_1).f1)]] (by rfl) rfl rfl argS ?_
         with_reducible refine (topiaryref01_Less.calls a1_0 a1_1 ((rd_T30 l0 x7_1).f0) ((rd_T30 l0 x7_1).f1) false _ A22.out).mono ?_
         rintro e w33 ⟨rfl, hb⟩
         have HS2_ := (hb.cell (World.block_lt_of_cell? _ _ (hHeld.2.2.1))).trans (hHeld.2.2.1)
         have HS3_ := (hb.cell (World.block_lt_of_cell? _ _ (hHeld.2.2.2))).trans (hHeld.2.2.2)
         refine ⟨_, rfl, ?_⟩
         replace HO_0 := Aside0.mk (Kd.R_below (RS HO_0) hb)
         replace HO_5 := Aside0.mk (Kd.R_below (RS HO_5) hb)
         replace BK169 := Aside0.mk (blk_below (blkS BK169) hb)
         replace HK := Aside0.mk (Kept.below (S := (fun k_ => P0_ k_)) (by repeat (first | (with_reducible first | exact HK.out | apply Kept.alloc | apply Kept.drewN | apply Kept.drew | refine Kept.setCell ?_ (.inr GW169.out) _) | exact HK.out)) hb)
         replace HB := Aside0.mk (below_step (bS1 HB GE169) hb)
         (try clear hb)
         refine hK.out _ _ ⟨(blk_cell BK169.out 0).trans rfl, (blk_cell BK169.out 1).trans rfl, HS2_, HS3_⟩ (fun hHeld => ?_)
         clear hK K
         refine normS (N := (some 27)) ?_
         refine pureT (i := 9) (N := some 28) HT_ ?_
         refine done_ (done_of HT_.out (by kernel_rfl)) ?_
         have p187 : 0 ≤ (x7_1 : Int) := of_decide_eq_true asmS
         have q187 : x7_1 < (l0.length : Int) := of_decide_eq_true asmS
         obtain ⟨ad187, e187, hx187_0, hx187_1⟩ := at_T30 (Kd.R_reads' HO_0.out).2.2 x7_1 p187 q187
         obtain rfl : ad178 = ad187 := (by injection e187)
         replace p187 := eq_true p187
         replace q187 := eq_true q187
         try go_wp2_with (first | ((with_reducible refine gate_builtin (b := .append) (xs := #[.tmp 33, .tmp 38]) rfl ?_); at_builtin; refine Kd.R_append k30 (w0 := w0) w0.heap.size rfl (.tmp 33) (.tmp 38) 99 30 (.agg #[(.int .i64 0), (.int .i64 0)]) 16 rfl Try.underlying99 info30 rfl (by decide) (by omega) u5 x5_1 (⟨(rd_T30 l0 x7_1).f0, (rd_T30 l0 x7_1).f1⟩ : S30) [.int .i64 ((rd_T30 l0 x7_1).f0), .int .i64 ((rd_T30 l0 x7_1).f1)] (fun k_ => (P0_ k_ ∨ w.heap.size ≤ k_) ∧ some k_ ≠ (.slice (some ad178) l0.length co11 : Value).ownBlock ∧ k_ ≠ gb169) (fun _ => False) rfl rfl ?aP (fun _ hk => hk.elim) ?aF ?aO ?aB ?aS ?aL ?_; (case aP => exact k30_mkM _ _ _ (⟨(rd_T30 l0 x7_1).f0, (rd_T30 l0 x7_1).f1⟩ : S30)); (case aB => exact (bS1 HB GE169)); (case aF => exact (fun k_ hk => ⟨(.inr (Nat.le_trans (by first | exact HK.out.1 | exact (show Kept w _ (fun k_ => P0_ k_) from by repeat (first | (with_reducible first | exact HK.out | apply Kept.alloc | apply Kept.drewN | apply Kept.drew | refine Kept.setCell ?_ (.inr GW169.out) _) | exact HK.out)).1) hk)), Kd.fresh' (Kd.R_lt (RS HO_0)) k_ hk, Kd.freshB (g := gb169) (o := .cells #[.int .i64 a1_0, .int .i64 a1_1] 30 (0, 0)) (blkS BK169) k_ hk⟩)); (case aO => exact (RS HO_5)); (case aS => exact (below_size (bS1 HB GE169))); (case aL => have := LMc31.out; omega); intro v189 w34 ho hb hg hat; rw [← Ny188.out] at ho; have n0_ := Aside0.mk (Kd.R_after (ok := (fun k_ => (P0_ k_ ∨ w.heap.size ≤ k_) ∧ k_ ≠ gb169)) (by (with_reducible repeat (first | apply Kd.R_alloc | apply Kd.R_drewN | apply Kd.R_drew)); exact Kd.R_mono HO_0.out (fun _ hk => ⟨⟨hk.1, hk.2.2⟩, hk.2.1⟩)) hg hat); have n1_ := Aside0.mk (blk_grown (blkS BK169) hg (Kd.R_away HO_5.out (fun _ hk => hk.2.2))); have n2_ := Aside0.mk (hb); have n3_ := Aside0.mk (Kept.of_grown (S := (fun k_ => P0_ k_)) hg (by repeat (first | (with_reducible first | exact HK.out | apply Kept.alloc | apply Kept.drewN | apply Kept.drew | refine Kept.setCell ?_ (.inr GW169.out) _) | exact HK.out)) (fun k_ e_ => (HO_5.out.1 k_ e_).1)); have n4_ := Aside0.mk (ho); clear HO_0; clear BK169; clear HB; clear HK; clear HO_5; have HO_0 := n0_; have BK169 := n1_; have HB := n2_; have HK := n3_; have HO190 := n4_; clear n0_ n1_ n2_ n3_ n4_; clear ho hb hg hat))
         go_roundg k1
         case measure => have := HK1.out; omega
         case rel => exact ⟨(y188), (false), (wrap64 (x7_1 + 1)), (by first | rfl | (simp; done) | (simp [*]; done)), (by first | rfl | (simp; done) | (simp [*]; done)), H', ⟨by have := HK1.out; omega⟩, ⟨by (with_reducible repeat (first | apply Kd.R_alloc | apply Kd.R_drewN | apply Kd.R_drew)); exact Kd.R_mono HO_0.out (fun _ hk => ⟨hk.1.1, ⟨hk.2, hk.1.2⟩⟩)⟩, ⟨by (with_reducible repeat (first | apply Kd.R_alloc | apply Kd.R_drewN | apply Kd.R_drew)); exact HO190.out⟩, ⟨by (with_reducible repeat (first | refine blk_drewN ?_ _ | refine blk_drew ?_ | refine blk_alloc ?_ _)); exact BK169.out⟩, ⟨by repeat (first | (with_reducible first | exact HK.out | apply Kept.alloc | apply Kept.drewN | apply Kept.drew | refine Kept.setCell ?_ (.inr GW169.out) _) | exact HK.out)⟩, ⟨bS1 HB GE169⟩⟩
        ·rw [if_neg c31] at H
         exact absurd H (by simp)
      ·rw [if_neg c21] at H
       exact absurd H (by simp)
    ·rw [if_neg c15] at H
     have c15b0 : decide (x7_1 < (l0.length : Int)) = false := decide_eq_false c15
     clear c15
     by_cases c35 : x6_1 = true
     ·subst c35
      have H1 : (some x5_1) = some r := by rw [if_pos rfl] at H; exact H
      clear H
      have H := H1
      clear H1
      obtain rfl := Option.some.inj H
      go_wp2
      go_ret
      exact ⟨_, by first | rfl | (simp [errW_none, errW_some] <;> rfl) | (simp [*, errW_none, errW_some] <;> rfl), by (with_reducible repeat (first | apply Kd.R_alloc | apply Kd.R_drewN | apply Kd.R_drew)); exact Kd.R_mono HO_5.out (fun _ hk => hk.1), bS1 HB GE169, by repeat (first | (with_reducible first | exact HK.out | apply Kept.alloc | apply Kept.drewN | apply Kept.drew | refine Kept.setCell ?_ (.inr GW169.out) _) | exact HK.out)⟩
     ·replace c35 := Bool.eq_false_iff.mpr c35
      subst c35
      have H1 : (if x5_1.length < 8796093022208 then (some (x5_1 ++ [(⟨a1_0, a1_1⟩ : S30)])) else (none)) = some r := by rw [if_neg (show ¬ (false = true) by decide)] at H; exact H
      clear H
      have H := H1
      clear H1
      by_cases c36 : x5_1.length < 8796093022208
      ·rw [if_pos c36] at H
       have LMc36 := Aside0.mk c36
       clear c36
       obtain ⟨y191, hy191⟩ : ∃ y_ : List (S30), y_ = (x5_1 ++ [(⟨a1_0, a1_1⟩ : S30)]) := ⟨_, rfl⟩
       replace H : (some y191) = some r := by first | (rw [hy191]; with_reducible exact H) | (have H2_ := (Option.bind_some _ _).symm.trans H; rw [hy191]; with_reducible exact H2_) | (have H2_ := (Option.bind_some _ _).symm.trans H; with_reducible exact H2_) | with_reducible exact H | (rw [hy191]; exact H) | exact H
       have Ny191 := Aside0.mk hy191
       clear hy191
       obtain rfl := Option.some.inj H
       have hcz37_0 : wr.cell? ⟨gb169, 0, none⟩ = some (.int .i64 a1_0) := (blk_cell BK169.out 0).trans rfl
       have hcz37_1 : wr.cell? ⟨gb169, 1, none⟩ = some (.int .i64 a1_1) := (blk_cell BK169.out 1).trans rfl
       have hfz37_0 := blk_frozen BK169.out 0
       have hfz37_1 := blk_frozen BK169.out 1
       go_wp2_with (first | ((with_reducible refine gate_builtin (b := .append) (xs := #[.tmp 42, .tmp 44]) rfl ?_); at_builtin; refine Kd.R_append k30 (w0 := w0) w0.heap.size rfl (.tmp 42) (.tmp 44) 99 30 (.agg #[(.int .i64 0), (.int .i64 0)]) 16 rfl Try.underlying99 info30 rfl (by decide) (by omega) u5 x5_1 (⟨a1_0, a1_1⟩ : S30) [.int .i64 a1_0, .int .i64 a1_1] (fun k_ => (P0_ k_ ∨ w.heap.size ≤ k_) ∧ some k_ ≠ (.slice Ao11 l0.length co11 : Value).ownBlock ∧ k_ ≠ gb169) (fun _ => False) rfl rfl ?aP (fun _ hk => hk.elim) ?aF ?aO ?aB ?aS ?aL ?_; (case aP => exact k30_mkM _ _ _ (⟨a1_0, a1_1⟩ : S30)); (case aB => exact (bS1 HB GE169)); (case aF => exact (fun k_ hk => ⟨(.inr (Nat.le_trans (by first | exact HK.out.1 | exact (show Kept w _ (fun k_ => P0_ k_) from by repeat (first | (with_reducible first | exact HK.out | apply Kept.alloc | apply Kept.drewN | apply Kept.drew | refine Kept.setCell ?_ (.inr GW169.out) _) | exact HK.out)).1) hk)), Kd.fresh' (Kd.R_lt (RS HO_0)) k_ hk, Kd.freshB (g := gb169) (o := .cells #[.int .i64 a1_0, .int .i64 a1_1] 30 (0, 0)) (blkS BK169) k_ hk⟩)); (case aO => exact (RS HO_5)); (case aS => exact (below_size (bS1 HB GE169))); (case aL => have := LMc36.out; omega); intro v192 w38 ho hb hg hat; rw [← Ny191.out] at ho; have n0_ := Aside0.mk (Kd.R_after (ok := (fun k_ => (P0_ k_ ∨ w.heap.size ≤ k_) ∧ k_ ≠ gb169)) (by (with_reducible repeat (first | apply Kd.R_alloc | apply Kd.R_drewN | apply Kd.R_drew)); exact Kd.R_mono HO_0.out (fun _ hk => ⟨⟨hk.1, hk.2.2⟩, hk.2.1⟩)) hg hat); have n1_ := Aside0.mk (blk_grown (blkS BK169) hg (Kd.R_away HO_5.out (fun _ hk => hk.2.2))); have n2_ := Aside0.mk (hb); have n3_ := Aside0.mk (Kept.of_grown (S := (fun k_ => P0_ k_)) hg (by repeat (first | (with_reducible first | exact HK.out | apply Kept.alloc | apply Kept.drewN | apply Kept.drew | refine Kept.setCell ?_ (.inr GW169.out) _) | exact HK.out)) (fun k_ e_ => (HO_5.out.1 k_ e_).1)); have n4_ := Aside0.mk (ho); clear HO_0; clear BK169; clear HB; clear HK; clear HO_5; have HO_0 := n0_; have BK169 := n1_; have HB := n2_; have HK := n3_; have HO193 := n4_; clear n0_ n1_ n2_ n3_ n4_; clear ho hb hg hat))
       go_ret
       exact ⟨_, by first | rfl | (simp [errW_none, errW_some] <;> rfl) | (simp [*, errW_none, errW_some] <;> rfl), by (with_reducible repeat (first | apply Kd.R_alloc | apply Kd.R_drewN | apply Kd.R_drew)); exact Kd.R_mono HO193.out (fun _ hk => hk.1), bS1 HB GE169, by repeat (first | (with_reducible first | exact HK.out | apply Kept.alloc | apply Kept.drewN | apply Kept.drew | refine Kept.setCell ?_ (.inr GW169.out) _) | exact HK.out)⟩
      ·rw [if_neg c36] at H
       exact absurd H (by simp)
end Go.Proofs.Ytnopjjilpgekfaa.PCa
namespace Go.Proofs.Ytnopjjilpgekfaa.PCa
open Go.RowKit Go.Proofs.YtnopjjilpgekfaaW.PrintWords Go.Proofs.YtnopjjilpgekfaaW.PrintLast Go.Proofs.YtnopjjilpgekfaaW.PrintMore
attribute [local go_sem] max2_int min2_int max_two min_two max_three min_three max_four min_four
set_option linter.unusedVariables false
set_option linter.unusedSimpArgs false
attribute [local go_sem high] eqA30
def topiaryref05_Names.l0 : Nat → List (S30) → List (S30) → Int → Int → Int → Int → List Int → Int → Int → Int → Int → Int → Int → Int → ByteArray → ByteArray → Option ((List (S30)))
 | 0, _, _, _, _, _, _, _, _, _, _, _, _, _, _, _, _ => none
 | k + 1, x3, x4, x5, x195000, x195001, x195002, x195003, x195004, x195005, x195006, x195007, x195008, x195009, x195010, x195011, x195012 => if x5 < (x3.length : Int) then (if 0 ≤ x5 then ((topiaryref01_Right.f ((rd_T30 x3 x5).f0) ((rd_T30 x3 x5).f1)).bind fun t202 => (if t202 = true then (if (!(((rd_T30 x3 x5).f0) == x195000) || (!(((rd_T30 x3 x5).f1) == x195001))) = true then ((topiaryref01_Put.f k x4 ((rd_T30 x3 x5).f0) ((rd_T30 x3 x5).f1)).bind fun t205 => (topiaryref05_Names.l0 k x3 t205 (wrap64 (x5 + 1)) x195000 x195001 x195002 x195003 x195004 x195005 x195006 x195007 x195008 x195009 x195010 x195011 x195012)) else (topiaryref05_Names.l0 k x3 x4 (wrap64 (x5 + 1)) x195000 x195001 x195002 x195003 x195004 x195005 x195006 x195007 x195008 x195009 x195010 x195011 x195012)) else (topiaryref05_Names.l0 k x3 x4 (wrap64 (x5 + 1)) x195000 x195001 x195002 x195003 x195004 x195005 x195006 x195007 x195008 x195009 x195010 x195011 x195012))) else (none)) else (some x4)
def topiaryref05_Names.f (k : Nat) (a0_0 : Int) (a0_1 : Int) (a0_2 : Int) (l0_3 : List Int) (a0_4 : Int) (a0_5 : Int) (a0_6 : Int) (a0_7 : Int) (a0_8 : Int) (a0_9 : Int) (a0_10 : Int) (a0_11 : ByteArray) (a0_12 : ByteArray) : Option ((List (S30))) := topiaryref05_Names.l0 k (([(⟨a0_5, a0_6⟩ : S30), (⟨a0_7, a0_8⟩ : S30), (⟨a0_9, a0_10⟩ : S30)] : List (S30))) (([] : List (S30))) 0 a0_0 a0_1 a0_2 l0_3 a0_4 a0_5 a0_6 a0_7 a0_8 a0_9 a0_10 a0_11 a0_12
theorem topiaryref05_Names.mono_l : ∀ k, (∀ y0 y1 y2 y3 y4 y5 y6 y7 y8 y9 y10 y11 y12 y13 y14 y15, LeO (topiaryref05_Names.l0 k y0 y1 y2 y3 y4 y5 y6 y7 y8 y9 y10 y11 y12 y13 y14 y15) (topiaryref05_Names.l0 (k + 1) y0 y1 y2 y3 y4 y5 y6 y7 y8 y9 y10 y11 y12 y13 y14 y15))
 | 0 => fun _ _ _ _ _ _ _ _ _ _ _ _ _ _ _ _ r h => by simp [topiaryref05_Names.l0] at h
 | k + 1 => by
  have ih0 := topiaryref05_Names.mono_l k
  ·intro y0 y1 y2 y3 y4 y5 y6 y7 y8 y9 y10 y11 y12 y13 y14 y15
   unfold topiaryref05_Names.l0
   repeat' first
   | (with_reducible exact ih0 _ _ _ _ _ _ _ _ _ _ _ _ _ _ _ _)
   | (with_reducible exact topiaryref01_Put.mono _ _ _ _)
   | (with_reducible exact LeO.refl _)
   | (with_reducible exact LeO.none _)
   | (with_reducible refine LeO.ite ?_ ?_)
   | (with_reducible refine LeO.bind ?_ (fun _ => ?_))
   | exact ih0 _ _ _ _ _ _ _ _ _ _ _ _ _ _ _ _
   | exact topiaryref01_Put.mono _ _ _ _
   | exact LeO.none _
   | refine LeO.ite ?_ ?_
   | refine LeO.bind ?_ (fun _ => ?_)
theorem topiaryref05_Names.mono : ∀ a0 a1 a2 a3 a4 a5 a6 a7 a8 a9 a10 a11 a12 k, LeO (topiaryref05_Names.f k a0 a1 a2 a3 a4 a5 a6 a7 a8 a9 a10 a11 a12) (topiaryref05_Names.f (k + 1) a0 a1 a2 a3 a4 a5 a6 a7 a8 a9 a10 a11 a12) := by
 intro a0 a1 a2 a3 a4 a5 a6 a7 a8 a9 a10 a11 a12 k
 have ih0 := topiaryref05_Names.mono_l k
 unfold topiaryref05_Names.f
 repeat' first
   | (with_reducible exact ih0 _ _ _ _ _ _ _ _ _ _ _ _ _ _ _ _)
   | (with_reducible exact topiaryref01_Put.mono _ _ _ _)
   | (with_reducible exact LeO.refl _)
   | (with_reducible exact LeO.none _)
   | (with_reducible refine LeO.ite ?_ ?_)
   | (with_reducible refine LeO.bind ?_ (fun _ => ?_))
   | exact ih0 _ _ _ _ _ _ _ _ _ _ _ _ _ _ _ _
   | exact topiaryref01_Put.mono _ _ _ _
   | exact LeO.none _
   | refine LeO.ite ?_ ?_
   | refine LeO.bind ?_ (fun _ => ?_)
def topiaryref05_Names.T6 : Bool × List (List Nat × List Nat) := (true, [([], []), ([], []), ([0, 1], [0, 1]), ([2], [2]), ([3], [3]), ([4, 4], [4]), ([5], [5]), ([5], [5]), ([6, 7, 5], [5, 6, 7]), ([8, 5], [5, 8]), ([5], [5]), ([10, 5], [5, 10]), ([9, 11, 5], [5, 9, 11]), ([5, 12], [5, 12])])
def topiaryref05_Names.B6 : List Nat := [0, 0, 3, 7, 15, 31, 63, 63, 255, 511, 63, 1087, 4095, 8191]
theorem topiaryref05_Names.tab6 : rtab .any (opsOf Try.f75 6) = topiaryref05_Names.T6 := by kernel_rfl
theorem topiaryref05_Names.bits6 : waitsOk topiaryref05_Names.T6.2 topiaryref05_Names.B6 = true := by kernel_rfl
set_option maxHeartbeats 8000000 in
set_option maxRecDepth 100000 in
theorem topiaryref05_Names.calls (k : Nat) (a0_0 : Int) (a0_1 : Int) (a0_2 : Int) (A0_3 : Option Addr) (c0_3 : Nat) (l0_3 : List Int) (a0_4 : Int) (a0_5 : Int) (a0_6 : Int) (a0_7 : Int) (a0_8 : Int) (a0_9 : Int) (a0_10 : Int) (a0_11 : ByteArray) (a0_12 : ByteArray) (r : List (S30)) (w : World) (hr0_3 : Kd.C (Kd.int .i64) w A0_3 l0_3.length l0_3) (hc0_3 : l0_3.length ≤ c0_3) (h : topiaryref05_Names.f k a0_0 a0_1 a0_2 l0_3 a0_4 a0_5 a0_6 a0_7 a0_8 a0_9 a0_10 a0_11 a0_12 = some r) :
  Calls Try.prog 75 #[.agg #[.int .i64 a0_0, .int .i64 a0_1, .int .i64 a0_2, .slice A0_3 l0_3.length c0_3, .int .i64 a0_4, .int .i64 a0_5, .int .i64 a0_6, .int .i64 a0_7, .int .i64 a0_8, .int .i64 a0_9, .int .i64 a0_10, .string a0_11, .string a0_12]] w fun e w' => ∃ v0_ : Value, e = .returned (v0_) ∧ Kd.R k30 30 w' w.heap.size (fun _ => True) v0_ r ∧ Below w.heap.size w w' := by
 have hu32 := Try.underlying32
 have hu30 := Try.underlying30
 have HR0_3 := Aside0.mk hr0_3
 have HC0_3 := Aside0.mk hc0_3
 clear hr0_3 hc0_3
 have HB := Aside0.mk (Below.refl w.heap.size w)
 have H : (topiaryref05_Names.l0 k (([(⟨a0_5, a0_6⟩ : S30), (⟨a0_7, a0_8⟩ : S30), (⟨a0_9, a0_10⟩ : S30)] : List (S30))) (([] : List (S30))) 0 a0_0 a0_1 a0_2 l0_3 a0_4 a0_5 a0_6 a0_7 a0_8 a0_9 a0_10 a0_11 a0_12) = some r := h
 clear h
 obtain ⟨y195, hy195⟩ : ∃ y_ : List (S30), y_ = (([(⟨a0_5, a0_6⟩ : S30), (⟨a0_7, a0_8⟩ : S30), (⟨a0_9, a0_10⟩ : S30)] : List (S30))) := ⟨_, rfl⟩
 replace H : (topiaryref05_Names.l0 k y195 (([] : List (S30))) 0 a0_0 a0_1 a0_2 l0_3 a0_4 a0_5 a0_6 a0_7 a0_8 a0_9 a0_10 a0_11 a0_12) = some r := by first | (rw [hy195]; with_reducible exact H) | (have H2_ := (Option.bind_some _ _).symm.trans H; rw [hy195]; with_reducible exact H2_) | (have H2_ := (Option.bind_some _ _).symm.trans H; with_reducible exact H2_) | with_reducible exact H | (rw [hy195]; exact H) | exact H
 have Ny195 := Aside0.mk hy195
 clear hy195
 obtain ⟨y198, hy198⟩ : ∃ y_ : List (S30), y_ = (([] : List (S30))) := ⟨_, rfl⟩
 replace H : (topiaryref05_Names.l0 k y195 y198 0 a0_0 a0_1 a0_2 l0_3 a0_4 a0_5 a0_6 a0_7 a0_8 a0_9 a0_10 a0_11 a0_12) = some r := by first | (rw [hy198]; with_reducible exact H) | (have H2_ := (Option.bind_some _ _).symm.trans H; rw [hy198]; with_reducible exact H2_) | (have H2_ := (Option.bind_some _ _).symm.trans H; with_reducible exact H2_) | with_reducible exact H | (rw [hy198]; exact H) | exact H
 have Ny198 := Aside0.mk hy198
 clear hy198
 have H' := Aside0.mk H
 clear H
 go_enter Try.func75, Try.ntmps75
 go_wp2_with (first | ((with_reducible refine gate_dst (N := 1) rfl ?_); refine boxE (N := 1) (cs := #[.int .i64 a0_0, .int .i64 a0_1, .int .i64 a0_2, .slice A0_3 l0_3.length c0_3, .int .i64 a0_4, .int .i64 a0_5, .int .i64 a0_6, .int .i64 a0_7, .int .i64 a0_8, .int .i64 a0_9, .int .i64 a0_10, .string a0_11, .string a0_12]) (t := 32) ?_; intro gb194 hg w2 hbox hb; have BK194 := Aside0.mk (hbox); have GW194 := Aside0.mk ((by rw [hg]; exact (below_size (bS HB)) : w.heap.size ≤ gb194)); have GE194 := Aside0.mk ((by rw [hg]; exact (below_size (bS HB)) : w.heap.size ≤ gb194)); replace HB := Aside0.mk (below_step (bS HB) hb); clear hb hbox hg; obtain ⟨hcz3_0, hcz3_1, hcz3_2, hcz3_3, hcz3_4, hcz3_5, hcz3_6, hcz3_7, hcz3_8, hcz3_9, hcz3_10, hcz3_11, hcz3_12⟩ := cells13 BK194.out) | ((with_reducible refine gate_dst (N := 12) rfl ?_); refine Kd.R_lit k30 _ 30 ?hg (N := 12) ?hd (xs := ([(⟨a0_5, a0_6⟩ : S30), (⟨a0_7, a0_8⟩ : S30), (⟨a0_9, a0_10⟩ : S30)] : List (S30))) (inner := [.int .i64 a0_5, .int .i64 a0_6, .int .i64 a0_7, .int .i64 a0_8, .int .i64 a0_9, .int .i64 a0_10]) (ok := fun _ => True) (okp := fun _ => True) ?hr ?hp (fun _ hk => hk) trivial (Below.refl _ _) (Nat.le_refl _) (by simp) ?_; (case hd => rfl); (case hg => rfl); (case hr => first | (go_simp; done) | (go_simp; rfl)); (case hp => exact (Reps.c2 (show Kd.M k30 _ _ _ (⟨a0_5, a0_6⟩ : S30) [.int .i64 a0_5, .int .i64 a0_6] from (k30_mkM _ _ _ (⟨a0_5, a0_6⟩ : S30) )) (Reps.c2 (show Kd.M k30 _ _ _ (⟨a0_7, a0_8⟩ : S30) [.int .i64 a0_7, .int .i64 a0_8] from (k30_mkM _ _ _ (⟨a0_7, a0_8⟩ : S30) )) (Reps.c2 (show Kd.M k30 _ _ _ (⟨a0_9, a0_10⟩ : S30) [.int .i64 a0_9, .int .i64 a0_10] from (k30_mkM _ _ _ (⟨a0_9, a0_10⟩ : S30) )) (Reps.none _ _))))); intro v196 w4 ho5 hb hg_ hnew_; clear hg_ hnew_; (first | rw [← Ny195.out] at ho5 | (simp only [Int.reduceToNat] at ho5; rw [← Ny195.out] at ho5)); have HO197 := Aside0.mk (Kd.R_lower ho5 (below_size (bS1 HB GE194))); replace BK194 := Aside0.mk (blk_below (blkS BK194) hb); replace HB := Aside0.mk (below_step (bS1 HB GE194) hb); clear hb ho5) | ((with_reducible refine gate_dst (N := 13) rfl ?_); refine Kd.R_lit k30 _ 30 ?hg (N := 13) ?hd (xs := ([] : List (S30))) (inner := []) (ok := fun _ => True) (okp := fun _ => True) ?hr ?hp (fun _ hk => hk) trivial (Below.refl _ _) (Nat.le_refl _) (by simp) ?_; (case hd => rfl); (case hg => rfl); (case hr => first | (go_simp; done) | (go_simp; rfl)); (case hp => exact (Reps.none _ _)); intro v199 w6 ho7 hb hg_ hnew_; clear hg_ hnew_; (first | rw [← Ny198.out] at ho7 | (simp only [Int.reduceToNat] at ho7; rw [← Ny198.out] at ho7)); have HO200 := Aside0.mk (Kd.R_lower (Kd.R_new' ho7 (Kd.R_lt (RS HO197))) (below_size (bS1 HB GE194))); replace HO197 := Aside0.mk (Kd.R_elder' (RS HO197) (Kd.R_base ho7) hb); replace BK194 := Aside0.mk (blk_below (blkS BK194) hb); replace HB := Aside0.mk (below_step (bS1 HB GE194) hb); clear hb ho7))
 go_loopg [4, 5] k (fun kq v4 v5 w' => ∃ (x4_1 : List (S30)) (x5_1 : Int), v5 = .int .i64 x5_1 ∧ Aside0 (topiaryref05_Names.l0 kq y195 x4_1 x5_1 a0_0 a0_1 a0_2 l0_3 a0_4 a0_5 a0_6 a0_7 a0_8 a0_9 a0_10 a0_11 a0_12 = some r) ∧ Aside0 (kq ≤ k) ∧ Aside0 (Kd.R k30 30 w' w.heap.size (fun k_ => some k_ ≠ (v4 : Value).ownBlock) v196 y195) ∧ Aside0 (Kd.R k30 30 w' w.heap.size (fun k_ => some k_ ≠ (v196 : Value).ownBlock) v4 x4_1) ∧ Aside0 (w'.heap[gb194]? = some (.cells #[.int .i64 a0_0, .int .i64 a0_1, .int .i64 a0_2, (.slice A0_3 l0_3.length c0_3), .int .i64 a0_4, .int .i64 a0_5, .int .i64 a0_6, .int .i64 a0_7, .int .i64 a0_8, .int .i64 a0_9, .int .i64 a0_10, .string a0_11, .string a0_12] 32 (0, 0))) ∧ Aside0 (Below w.heap.size w w'))
 case atStart => exact ⟨(y198), (0), (by first | rfl | (simp; done) | (simp [*]; done)), H', ⟨Nat.le_refl _⟩, ⟨by (with_reducible repeat (first | apply Kd.R_alloc | apply Kd.R_drewN | apply Kd.R_drew)); exact Kd.R_mono HO197.out (fun _ hk => hk.2)⟩, ⟨by (with_reducible repeat (first | apply Kd.R_alloc | apply Kd.R_drewN | apply Kd.R_drew)); exact Kd.R_mono HO200.out (fun _ hk => hk.2)⟩, ⟨by (with_reducible repeat (first | refine blk_drewN ?_ _ | refine blk_drew ?_ | refine blk_alloc ?_ _)); exact BK194.out⟩, ⟨bS1 HB GE194⟩⟩
 case round =>
  clear H'
  (try clear c2); (try clear p2); (try clear c7); (try clear hcz3_0 hcz3_1 hcz3_10 hcz3_11 hcz3_12 hcz3_2 hcz3_3 hcz3_4 hcz3_5 hcz3_6 hcz3_7 hcz3_8 hcz3_9); (try clear hfz3_0 hfz3_1 hfz3_10 hfz3_11 hfz3_12 hfz3_2 hfz3_3 hfz3_4 hfz3_5 hfz3_6 hfz3_7 hfz3_8 hfz3_9)
  obtain ⟨x4_1, x5_1, rfl, HA, HK1, HO_3, HO_4, BK194, HB⟩ := hrel
  cases gk with
  | zero => exact absurd HA.out (by simp [topiaryref05_Names.l0])
  | succ k1 =>
   have H := HA.out
   clear HA
   simp only [topiaryref05_Names.l0] at H
   by_cases c8 : x5_1 < (y195.length : Int)
   ·rw [if_pos c8] at H
    have c8b0 : decide (x5_1 < (y195.length : Int)) = true := decide_eq_true c8
    clear c8
    by_cases c9 : 0 ≤ x5_1
    ·rw [if_pos c9] at H
     have c9b0 : decide (0 ≤ x5_1) = true := decide_eq_true c9
     clear c9
     replace H := Option.bind_eq_some_iff.mp H
     obtain ⟨t202, A100, H⟩ := H
     replace H : (if t202 = true then (if (!(((rd_T30 y195 x5_1).f0) == a0_0) || (!(((rd_T30 y195 x5_1).f1) == a0_1))) = true then ((topiaryref01_Put.f k1 x4_1 ((rd_T30 y195 x5_1).f0) ((rd_T30 y195 x5_1).f1)).bind fun t205 => (topiaryref05_Names.l0 k1 y195 t205 (wrap64 (x5_1 + 1)) a0_0 a0_1 a0_2 l0_3 a0_4 a0_5 a0_6 a0_7 a0_8 a0_9 a0_10 a0_11 a0_12)) else (topiaryref05_Names.l0 k1 y195 x4_1 (wrap64 (x5_1 + 1)) a0_0 a0_1 a0_2 l0_3 a0_4 a0_5 a0_6 a0_7 a0_8 a0_9 a0_10 a0_11 a0_12)) else (topiaryref05_Names.l0 k1 y195 x4_1 (wrap64 (x5_1 + 1)) a0_0 a0_1 a0_2 l0_3 a0_4 a0_5 a0_6 a0_7 a0_8 a0_9 a0_10 a0_11 a0_12)) = some r := H
     have A10 := Aside0.mk A100
     clear A100
     by_cases c11 : t202 = true
     ·subst c11
      have H1 : (if (!(((rd_T30 y195 x5_1).f0) == a0_0) || (!(((rd_T30 y195 x5_1).f1) == a0_1))) = true then ((topiaryref01_Put.f k1 x4_1 ((rd_T30 y195 x5_1).f0) ((rd_T30 y195 x5_1).f1)).bind fun t205 => (topiaryref05_Names.l0 k1 y195 t205 (wrap64 (x5_1 + 1)) a0_0 a0_1 a0_2 l0_3 a0_4 a0_5 a0_6 a0_7 a0_8 a0_9 a0_10 a0_11 a0_12)) else (topiaryref05_Names.l0 k1 y195 x4_1 (wrap64 (x5_1 + 1)) a0_0 a0_1 a0_2 l0_3 a0_4 a0_5 a0_6 a0_7 a0_8 a0_9 a0_10 a0_11 a0_12)) = some r := by rw [if_pos rfl] at H; exact H
      clear H
      have H := H1
      clear H1
      by_cases c12 : (!(((rd_T30 y195 x5_1).f0) == a0_0) || (!(((rd_T30 y195 x5_1).f1) == a0_1))) = true
      ·rw [if_pos c12] at H
       have c12b0 : (!(((rd_T30 y195 x5_1).f0) == a0_0) || (!(((rd_T30 y195 x5_1).f1) == a0_1))) = true := c12
       clear c12
       replace H := Option.bind_eq_some_iff.mp H
       obtain ⟨t205, A130, H⟩ := H
       replace H : (topiaryref05_Names.l0 k1 y195 t205 (wrap64 (x5_1 + 1)) a0_0 a0_1 a0_2 l0_3 a0_4 a0_5 a0_6 a0_7 a0_8 a0_9 a0_10 a0_11 a0_12) = some r := H
       have A13 := Aside0.mk A130
       clear A130
       have H' := Aside0.mk H
       clear H
       obtain ⟨Ao14, co14, eo14⟩ := Kd.R_slice HO_3.out
       subst eo14
       try go_wp2
       replace HO_3 := Aside0.mk (Kd.R_drew HO_3.out)
       replace HO_4 := Aside0.mk (Kd.R_drew HO_4.out)
       replace BK194 := Aside0.mk (blk_drew BK194.out)
       replace HB := Aside0.mk (below_drew1 HB.out)
       have p201 : 0 ≤ (x5_1 : Int) := of_decide_eq_true asmS
       have q201 : x5_1 < (y195.length : Int) := of_decide_eq_true asmS
       obtain ⟨ad201, e201, hx201_0, hx201_1⟩ := at_T30 (Kd.R_reads' HO_3.out).2.2 x5_1 p201 q201
       cases e201
       replace p201 := eq_true p201
       replace q201 := eq_true q201
       have p203 : 0 ≤ (x5_1 : Int) := of_decide_eq_true asmS
       have q203 : x5_1 < (y195.length : Int) := of_decide_eq_true asmS
       obtain ⟨ad203, e203, hx203_0, hx203_1⟩ := at_T30 (Kd.R_reads' HO_3.out).2.2 x5_1 p203 q203
       obtain rfl : ad201 = ad203 := (by injection e203)
       replace p203 := eq_true p203
       replace q203 := eq_true q203
       refine startS (n := 14) (S := fun w' => C13 w' gb194 (.int .i64 a0_0) (.int .i64 a0_1) (.int .i64 a0_2) (.slice A0_3 l0_3.length c0_3) (.int .i64 a0_4) (.int .i64 a0_5) (.int .i64 a0_6) (.int .i64 a0_7) (.int .i64 a0_8) (.int .i64 a0_9) (.int .i64 a0_10) (.string a0_11) (.string a0_12) (w'.cell? (ad201.add ((x5_1).toNat * 2)) = some (.int .i64 ((rd_T30 y195 x5_1).f0)) ∧ w'.cell? ⟨(ad201.add ((x5_1).toNat * 2)).block, (ad201.add ((x5_1).toNat * 2)).off + 1, none⟩ = some (.int .i64 ((rd_T30 y195 x5_1).f1)) ∧ w'.cell? (ad201.add ((x5_1).toNat * 2)) = some (.int .i64 ((rd_T30 y195 x5_1).f0)) ∧ w'.cell? ⟨(ad201.add ((x5_1).toNat * 2)).block, (ad201.add ((x5_1).toNat * 2)).off + 1, none⟩ = some (.int .i64 ((rd_T30 y195 x5_1).f1)))) (ds := []) (c13 BK194 ⟨hx201_0, hx201_1, hx203_0, hx203_1⟩) (fun hHeld => ?_); refine with_tabW topiaryref05_Names.tab6 topiaryref05_Names.bits6 (fun HT_ HW_ => ?_)
       generalize wr.drew = w15 at HO_3 HO_4 BK194 HB hx201_0 hx201_1 hx203_0 hx203_1 hHeld ⊢
       refine pureT (i := 0) (N := some 20) HT_ ?_
       refine pureT (i := 1) (N := some 21) HT_ ?_
       refine pureT (i := 2) (N := some 22) HT_ ?_
       refine takeS (i := 3) (N := some 23) (v := ?_) HT_ HW_ hHeld ?_ ?_
       rotate_left
       ·rintro w' ⟨s0, s1, s2, s3, s4, s5, s6, s7, s8, s9, s10, s11, s12, s13, s14, s15, s16⟩
        go_simp
        with_reducible rfl
       refine normS (N := some 23) ?_
       refine oneS (i := 4) (N := some 24) HT_ (fun K hK => ?_)
       refine goes_ Try.func70 (by kernel_rfl) rfl #[.agg #[.int .i64 ((rd_T30 y195 x5_1).f0), .int .i64 ((rd_T30 y195 x5_1).f1)]] (by rfl) rfl rfl argS ?_
       with_reducible refine (topiaryref01_Right.calls ((rd_T30 y195 x5_1).f0) ((rd_T30 y195 x5_1).f1) true _ A10.out).mono ?_
       rintro e w16 ⟨rfl, hb⟩
       have HS13_ := (hb.cell (World.block_lt_of_cell? _ _ (hHeld.2.2.2.2.2.2.2.2.2.2.2.2.2.1))).trans (hHeld.2.2.2.2.2.2.2.2.2.2.2.2.2.1)
       have HS14_ := (hb.cell (World.block_lt_of_cell? _ _ (hHeld.2.2.2.2.2.2.2.2.2.2.2.2.2.2.1))).trans (hHeld.2.2.2.2.2.2.2.2.2.2.2.2.2.2.1)
       have HS15_ := (hb.cell (World.block_lt_of_cell? _ _ (hHeld.2.2.2.2.2.2.2.2.2.2.2.2.2.2.2.1))).trans (hHeld.2.2.2.2.2.2.2.2.2.2.2.2.2.2.2.1)
       have HS16_ := (hb.cell (World.block_lt_of_cell? _ _ (hHeld.2.2.2.2.2.2.2.2.2.2.2.2.2.2.2.2))).trans (hHeld.2.2.2.2.2.2.2.2.2.2.2.2.2.2.2.2)
       refine ⟨_, rfl, ?_⟩
       replace HO_3 := Aside0.mk (Kd.R_below (RS HO_3) hb)
       replace HO_4 := Aside0.mk (Kd.R_below (RS HO_4) hb)
       replace BK194 := Aside0.mk (blk_below (blkS BK194) hb)
       replace HB := Aside0.mk (below_step (bS1 HB GE194) hb)
       (try clear hb)
       refine hK.out _ _ (c13 BK194 ⟨HS13_, HS14_, HS15_, HS16_⟩) (fun hHeld => ?_)
       clear hK K
       refine normS (N := (some 24)) ?_
       refine pureT (i := 5) (N := some 25) HT_ ?_
       refine pureT (i := 6) (N := some 26) HT_ ?_
       refine pureT (i := 7) (N := some 27) HT_ ?_
       refine pureT (i := 8) (N := some 28) HT_ ?_
       refine pureT (i := 10) (N := some 30) HT_ ?_
       refine takeS (i := 9) (N := some 29) (v := ?_) HT_ HW_ hHeld ?_ ?_
       rotate_left
       ·rintro w' ⟨s0, s1, s2, s3, s4, s5, s6, s7, s8, s9, s10, s11, s12, s13, s14, s15, s16⟩
        go_simp
        with_reducible rfl
       refine normS (N := some 29) ?_
       refine takeS (i := 11) (N := some 31) (v := ?_) HT_ HW_ hHeld ?_ ?_
       rotate_left
       ·rintro w' ⟨s0, s1, s2, s3, s4, s5, s6, s7, s8, s9, s10, s11, s12, s13, s14, s15, s16⟩
        go_simp
        with_reducible rfl
       refine normS (N := some 31) ?_
       refine pureT (i := 12) (N := some 32) HT_ ?_
       refine pureT (i := 13) (N := some 33) HT_ ?_
       refine done_ (done_of HT_.out (by kernel_rfl)) ?_
       have p204 : 0 ≤ (x5_1 : Int) := of_decide_eq_true asmS
       have q204 : x5_1 < (y195.length : Int) := of_decide_eq_true asmS
       obtain ⟨ad204, e204, hx204_0, hx204_1⟩ := at_T30 (Kd.R_reads' HO_3.out).2.2 x5_1 p204 q204
       obtain rfl : ad201 = ad204 := (by injection e204)
       replace p204 := eq_true p204
       replace q204 := eq_true q204
       obtain ⟨Ao17, co17, eo17⟩ := Kd.R_slice HO_4.out
       subst eo17
       try go_wp2_with (first | ((with_reducible refine gate_callee (f := 84) rfl ?_); refine goesL_ (some 39) rfl rfl Try.func84 (by kernel_rfl) rfl #[.slice Ao17 x4_1.length co17, .agg #[.int .i64 ((rd_T30 y195 x5_1).f0), .int .i64 ((rd_T30 y195 x5_1).f1)]] rfl argS ?_; (with_reducible refine (topiaryref01_Put.calls k1 (fun k_ => some k_ = (.slice Ao17 x4_1.length co17 : Value).ownBlock) (.slice Ao17 x4_1.length co17) x4_1 ((rd_T30 y195 x5_1).f0) ((rd_T30 y195 x5_1).f1) t205 w _ ?side1 ?side2 A13.out).mono ?_); (case side1 => repeat (first | (with_reducible first | exact HB.out | apply below_alloc | apply pw_below_drewN | apply below_drew1 | refine below_set ?_ GE194.out) | exact HB.out)); (case side2 => exact Kd.R_tight rfl HO_4.out); rintro e w18 ⟨v206, rfl, ho0, hb, hkp⟩; refine ⟨_, rfl, ?_⟩; have n0_ := Aside0.mk (Kd.R_mono (ok' := fun k_ => some k_ ≠ (v206 : Value).ownBlock) (Kd.R_keptB (HO_3.out) hkp (fun k_ hk_ hs_ => (hk_) hs_)) (fun k_ hk_ => fun e_ => Or.elim (ho0.1 k_ e_.symm) (fun hs_ => hk_.2.1 hs_) (fun hn_ => Nat.not_le.2 hk_.2.2 hn_))); have n1_ := Aside0.mk (blk_kept (blkS BK194) hkp (fun hs_ => (fun e_ => (Kd.R_ne HO_4.out BK194.out (by decide)) e_) hs_)); have n2_ := Aside0.mk (Kd.R_mono (ok' := fun k_ => some k_ ≠ (.slice (some ad201) y195.length co14 : Value).ownBlock) ho0 (fun k_ hk_ => Or.elim hk_ (fun hs_ => fun e_ => (((HO_3.out).1 k_ e_.symm)) hs_) (fun hn_ => (Kd.fresh' (Kd.R_lt (RS HO_3)) k_ hn_)))); have n3_ := Aside0.mk (hb); clear HO_3; clear BK194; clear HB; clear HO_4; have HO_3 := n0_; have BK194 := n1_; have HO207 := n2_; have HB := n3_; clear n0_ n1_ n2_ n3_; (try clear hb); (try clear hkp); (try clear ho0)))
       go_roundg k1
       case measure => have := HK1.out; omega
       case rel => exact ⟨(t205), (wrap64 (x5_1 + 1)), (by first | rfl | (simp; done) | (simp [*]; done)), H', ⟨by have := HK1.out; omega⟩, ⟨by (with_reducible repeat (first | apply Kd.R_alloc | apply Kd.R_drewN | apply Kd.R_drew)); exact HO_3.out⟩, ⟨by (with_reducible repeat (first | apply Kd.R_alloc | apply Kd.R_drewN | apply Kd.R_drew)); exact HO207.out⟩, ⟨by (with_reducible repeat (first | refine blk_drewN ?_ _ | refine blk_drew ?_ | refine blk_alloc ?_ _)); exact BK194.out⟩, ⟨bS1 HB GE194⟩⟩
      ·rw [if_neg c12] at H
       have c12b0 : (!(((rd_T30 y195 x5_1).f0) == a0_0) || (!(((rd_T30 y195 x5_1).f1) == a0_1))) = false := by simpa using c12
       clear c12
       have H' := Aside0.mk H
       clear H
       obtain ⟨Ao19, co19, eo19⟩ := Kd.R_slice HO_3.out
       subst eo19
       try go_wp2
       replace HO_3 := Aside0.mk (Kd.R_drew HO_3.out)
       replace HO_4 := Aside0.mk (Kd.R_drew HO_4.out)
       replace BK194 := Aside0.mk (blk_drew BK194.out)
       replace HB := Aside0.mk (below_drew1 HB.out)
       have p201 : 0 ≤ (x5_1 : Int) := of_decide_eq_true asmS
       have q201 : x5_1 < (y195.length : Int) := of_decide_eq_true asmS
       obtain ⟨ad201, e201, hx201_0, hx201_1⟩ := at_T30 (Kd.R_reads' HO_3.out).2.2 x5_1 p201 q201
       cases e201
       replace p201 := eq_true p201
       replace q201 := eq_true q201
       have p203 : 0 ≤ (x5_1 : Int) := of_decide_eq_true asmS
       have q203 : x5_1 < (y195.length : Int) := of_decide_eq_true asmS
       obtain ⟨ad203, e203, hx203_0, hx203_1⟩ := at_T30 (Kd.R_reads' HO_3.out).2.2 x5_1 p203 q203
       obtain rfl : ad201 = ad203 := (by injection e203)
       replace p203 := eq_true p203
       replace q203 := eq_true q203
       refine startS (n := 14) (S := fun w' => C13 w' gb194 (.int .i64 a0_0) (.int .i64 a0_1) (.int .i64 a0_2) (.slice A0_3 l0_3.length c0_3) (.int .i64 a0_4) (.int .i64 a0_5) (.int .i64 a0_6) (.int .i64 a0_7) (.int .i64 a0_8) (.int .i64 a0_9) (.int .i64 a0_10) (.string a0_11) (.string a0_12) (w'.cell? (ad201.add ((x5_1).toNat * 2)) = some (.int .i64 ((rd_T30 y195 x5_1).f0)) ∧ w'.cell? ⟨(ad201.add ((x5_1).toNat * 2)).block, (ad201.add ((x5_1).toNat * 2)).off + 1, none⟩ = some (.int .i64 ((rd_T30 y195 x5_1).f1)) ∧ w'.cell? (ad201.add ((x5_1).toNat * 2)) = some (.int .i64 ((rd_T30 y195 x5_1).f0)) ∧ w'.cell? ⟨(ad201.add ((x5_1).toNat * 2)).block, (ad201.add ((x5_1).toNat * 2)).off + 1, none⟩ = some (.int .i64 ((rd_T30 y195 x5_1).f1)))) (ds := []) (c13 BK194 ⟨hx201_0, hx201_1, hx203_0, hx203_1⟩) (fun hHeld => ?_); refine with_tabW topiaryref05_Names.tab6 topiaryref05_Names.bits6 (fun HT_ HW_ => ?_)
       generalize wr.drew = w20 at HO_3 HO_4 BK194 HB hx201_0 hx201_1 hx203_0 hx203_1 hHeld ⊢
       refine pureT (i := 0) (N := some 20) HT_ ?_
       refine pureT (i := 1) (N := some 21) HT_ ?_
       refine pureT (i := 2) (N := some 22) HT_ ?_
       refine takeS (i := 3) (N := some 23) (v := ?_) HT_ HW_ hHeld ?_ ?_
       rotate_left
       ·rintro w' ⟨s0, s1, s2, s3, s4, s5, s6, s7, s8, s9, s10, s11, s12, s13, s14, s15, s16⟩
        go_simp
        with_reducible rfl
       refine normS (N := some 23) ?_
       refine oneS (i := 4) (N := some 24) HT_ (fun K hK => ?_)
       refine goes_ Try.func70 (by kernel_rfl) rfl #[.agg #[.int .i64 ((rd_T30 y195 x5_1).f0), .int .i64 ((rd_T30 y195 x5_1).f1)]] (by rfl) rfl rfl argS ?_
       with_reducible refine (topiaryref01_Right.calls ((rd_T30 y195 x5_1).f0) ((rd_T30 y195 x5_1).f1) true _ A10.out).mono ?_
       rintro e w21 ⟨rfl, hb⟩
       have HS13_ := (hb.cell (World.block_lt_of_cell? _ _ (hHeld.2.2.2.2.2.2.2.2.2.2.2.2.2.1))).trans (hHeld.2.2.2.2.2.2.2.2.2.2.2.2.2.1)
       have HS14_ := (hb.cell (World.block_lt_of_cell? _ _ (hHeld.2.2.2.2.2.2.2.2.2.2.2.2.2.2.1))).trans (hHeld.2.2.2.2.2.2.2.2.2.2.2.2.2.2.1)
       have HS15_ := (hb.cell (World.block_lt_of_cell? _ _ (hHeld.2.2.2.2.2.2.2.2.2.2.2.2.2.2.2.1))).trans (hHeld.2.2.2.2.2.2.2.2.2.2.2.2.2.2.2.1)
       have HS16_ := (hb.cell (World.block_lt_of_cell? _ _ (hHeld.2.2.2.2.2.2.2.2.2.2.2.2.2.2.2.2))).trans (hHeld.2.2.2.2.2.2.2.2.2.2.2.2.2.2.2.2)
       refine ⟨_, rfl, ?_⟩
       replace HO_3 := Aside0.mk (Kd.R_below (RS HO_3) hb)
       replace HO_4 := Aside0.mk (Kd.R_below (RS HO_4) hb)
       replace BK194 := Aside0.mk (blk_below (blkS BK194) hb)
       replace HB := Aside0.mk (below_step (bS1 HB GE194) hb)
       (try clear hb)
       refine hK.out _ _ (c13 BK194 ⟨HS13_, HS14_, HS15_, HS16_⟩) (fun hHeld => ?_)
       clear hK K
       refine normS (N := (some 24)) ?_
       refine pureT (i := 5) (N := some 25) HT_ ?_
       refine pureT (i := 6) (N := some 26) HT_ ?_
       refine pureT (i := 7) (N := some 27) HT_ ?_
       refine pureT (i := 8) (N := some 28) HT_ ?_
       refine pureT (i := 10) (N := some 30) HT_ ?_
       refine takeS (i := 9) (N := some 29) (v := ?_) HT_ HW_ hHeld ?_ ?_
       rotate_left
       ·rintro w' ⟨s0, s1, s2, s3, s4, s5, s6, s7, s8, s9, s10, s11, s12, s13, s14, s15, s16⟩
        go_simp
        with_reducible rfl
       refine normS (N := some 29) ?_
       refine takeS (i := 11) (N := some 31) (v := ?_) HT_ HW_ hHeld ?_ ?_
       rotate_left
       ·rintro w' ⟨s0, s1, s2, s3, s4, s5, s6, s7, s8, s9, s10, s11, s12, s13, s14, s15, s16⟩
        go_simp
        with_reducible rfl
       refine normS (N := some 31) ?_
       refine pureT (i := 12) (N := some 32) HT_ ?_
       refine pureT (i := 13) (N := some 33) HT_ ?_
       refine done_ (done_of HT_.out (by kernel_rfl)) ?_
       try go_wp2
       go_roundg k1
       case measure => have := HK1.out; omega
       case rel => exact ⟨(x4_1), (wrap64 (x5_1 + 1)), (by first | rfl | (simp; done) | (simp [*]; done)), H', ⟨by have := HK1.out; omega⟩, ⟨by (with_reducible repeat (first | apply Kd.R_alloc | apply Kd.R_drewN | apply Kd.R_drew)); exact HO_3.out⟩, ⟨by (with_reducible repeat (first | apply Kd.R_alloc | apply Kd.R_drewN | apply Kd.R_drew)); exact HO_4.out⟩, ⟨by (with_reducible repeat (first | refine blk_drewN ?_ _ | refine blk_drew ?_ | refine blk_alloc ?_ _)); exact BK194.out⟩, ⟨bS1 HB GE194⟩⟩
     ·replace c11 := Bool.eq_false_iff.mpr c11
      subst c11
      have H1 : (topiaryref05_Names.l0 k1 y195 x4_1 (wrap64 (x5_1 + 1)) a0_0 a0_1 a0_2 l0_3 a0_4 a0_5 a0_6 a0_7 a0_8 a0_9 a0_10 a0_11 a0_12) = some r := by rw [if_neg (show ¬ (false = true) by decide)] at H; exact H
      clear H
      have H := H1
      clear H1
      have H' := Aside0.mk H
      clear H
      obtain ⟨Ao22, co22, eo22⟩ := Kd.R_slice HO_3.out
      subst eo22
      try go_wp2
      replace HO_3 := Aside0.mk (Kd.R_drew HO_3.out)
      replace HO_4 := Aside0.mk (Kd.R_drew HO_4.out)
      replace BK194 := Aside0.mk (blk_drew BK194.out)
      replace HB := Aside0.mk (below_drew1 HB.out)
      have p201 : 0 ≤ (x5_1 : Int) := of_decide_eq_true asmS
      have q201 : x5_1 < (y195.length : Int) := of_decide_eq_true asmS
      obtain ⟨ad201, e201, hx201_0, hx201_1⟩ := at_T30 (Kd.R_reads' HO_3.out).2.2 x5_1 p201 q201
      cases e201
      replace p201 := eq_true p201
      replace q201 := eq_true q201
      refine startS (n := 14) (S := fun w' => w'.cell? (ad201.add ((x5_1).toNat * 2)) = some (.int .i64 ((rd_T30 y195 x5_1).f0)) ∧ w'.cell? ⟨(ad201.add ((x5_1).toNat * 2)).block, (ad201.add ((x5_1).toNat * 2)).off + 1, none⟩ = some (.int .i64 ((rd_T30 y195 x5_1).f1))) (ds := []) ⟨hx201_0, hx201_1⟩ (fun hHeld => ?_); refine with_tabW topiaryref05_Names.tab6 topiaryref05_Names.bits6 (fun HT_ HW_ => ?_)
      generalize wr.drew = w23 at HO_3 HO_4 BK194 HB hx201_0 hx201_1 hHeld ⊢
      refine pureT (i := 0) (N := some 20) HT_ ?_
      refine pureT (i := 1) (N := some 21) HT_ ?_
      refine pureT (i := 2) (N := some 22) HT_ ?_
      refine takeS (i := 3) (N := some 23) (v := ?_) HT_ HW_ hHeld ?_ ?_
      rotate_left
      ·rintro w' ⟨s0, s1⟩
       go_simp
       with_reducible rfl
      refine normS (N := some 23) ?_
      refine oneS (i := 4) (N := some 24) HT_ (fun K hK => ?_)
      refine goes_ Try.func70 (by kernel_rfl) rfl #[.agg #[.int .i64 ((rd_T30 y195 x5_1).f0), .int .i64 ((rd_T30 y195 x5_1).f1)]] (by rfl) rfl rfl argS ?_
      with_reducible refine (topiaryref01_Right.calls ((rd_T30 y195 x5_1).f0) ((rd_T30 y195 x5_1).f1) false _ A10.out).mono ?_
      rintro e w24 ⟨rfl, hb⟩
      have HS0_ := (hb.cell (World.block_lt_of_cell? _ _ (hHeld.1))).trans (hHeld.1)
      have HS1_ := (hb.cell (World.block_lt_of_cell? _ _ (hHeld.2))).trans (hHeld.2)
      refine ⟨_, rfl, ?_⟩
      replace HO_3 := Aside0.mk (Kd.R_below (RS HO_3) hb)
      replace HO_4 := Aside0.mk (Kd.R_below (RS HO_4) hb)
      replace BK194 := Aside0.mk (blk_below (blkS BK194) hb)
      replace HB := Aside0.mk (below_step (bS1 HB GE194) hb)
      (try clear hb)
      refine hK.out _ _ ⟨HS0_, HS1_⟩ (fun hHeld => ?_)
      clear hK K
      refine normS (N := (some 24)) ?_
      refine pureT (i := 5) (N := some 25) HT_ ?_
      refine pureV (i := 6) (N := some 26) HT_ ?_
      refine pureV (i := 7) (N := some 27) HT_ ?_
      refine pureV (i := 8) (N := some 28) HT_ ?_
      refine pureV (i := 9) (N := some 29) HT_ ?_
      refine pureV (i := 10) (N := some 30) HT_ ?_
      refine pureV (i := 11) (N := some 31) HT_ ?_
      refine pureV (i := 12) (N := some 32) HT_ ?_
      refine pureT (i := 13) (N := some 33) HT_ ?_
      refine done_ (done_of HT_.out (by kernel_rfl)) ?_
      try go_wp2
      go_roundg k1
      case measure => have := HK1.out; omega
      case rel => exact ⟨(x4_1), (wrap64 (x5_1 + 1)), (by first | rfl | (simp; done) | (simp [*]; done)), H', ⟨by have := HK1.out; omega⟩, ⟨by (with_reducible repeat (first | apply Kd.R_alloc | apply Kd.R_drewN | apply Kd.R_drew)); exact HO_3.out⟩, ⟨by (with_reducible repeat (first | apply Kd.R_alloc | apply Kd.R_drewN | apply Kd.R_drew)); exact HO_4.out⟩, ⟨by (with_reducible repeat (first | refine blk_drewN ?_ _ | refine blk_drew ?_ | refine blk_alloc ?_ _)); exact BK194.out⟩, ⟨bS1 HB GE194⟩⟩
    ·rw [if_neg c9] at H
     exact absurd H (by simp)
   ·rw [if_neg c8] at H
    have c8b0 : decide (x5_1 < (y195.length : Int)) = false := decide_eq_false c8
    clear c8
    obtain rfl := Option.some.inj H
    obtain ⟨Ao25, co25, eo25⟩ := Kd.R_slice HO_3.out
    subst eo25
    go_wp2
    go_ret
    exact ⟨_, by first | rfl | (simp [errW_none, errW_some] <;> rfl) | (simp [*, errW_none, errW_some] <;> rfl), by (with_reducible repeat (first | apply Kd.R_alloc | apply Kd.R_drewN | apply Kd.R_drew)); exact Kd.R_mono HO_4.out (fun _ hk => trivial), bS1 HB GE194⟩
end Go.Proofs.Ytnopjjilpgekfaa.PCa
