/- What the statement's row needs of this session's texts, joined by program: part 6. -/
import Derived.Test.YtnopjjilpgekfaaQF4
namespace Go.Proofs.Ytnopjjilpgekfaa.PCa
open Go.RowKit Go.Proofs.YtnopjjilpgekfaaW.PrintWords Go.Proofs.YtnopjjilpgekfaaW.PrintLast Go.Proofs.YtnopjjilpgekfaaW.PrintMore
attribute [local go_sem] max2_int min2_int max_two min_two max_three min_three max_four min_four   -- for this text's walks alone
set_option linter.unusedVariables false
set_option linter.unusedSimpArgs false
attribute [local go_sem high] eqA30
def topiaryref05_Same.f (k : Nat) (a0_0 : Int) (a0_1 : Int) (a0_2 : Int) (l0_3 : List Int) (a0_4 : Int) (a0_5 : Int) (a0_6 : Int) (a0_7 : Int) (a0_8 : Int) (a0_9 : Int) (a0_10 : Int) (a0_11 : ByteArray) (a0_12 : ByteArray) (a1_0 : Int) (a1_1 : Int) (a1_2 : Int) (l1_3 : List Int) (a1_4 : Int) (a1_5 : Int) (a1_6 : Int) (a1_7 : Int) (a1_8 : Int) (a1_9 : Int) (a1_10 : Int) (a1_11 : ByteArray) (a1_12 : ByteArray) : Option (Bool) := if (a0_0 == a1_0 && (a0_1 == a1_1)) = true then (if a0_2 = a1_2 then ((topiaryref02_Same.f k l0_3 l1_3).bind fun t125 => (if t125 = true then (if a0_4 = a1_4 then (if (a0_5 == a1_5 && (a0_6 == a1_6)) = true then (if (a0_7 == a1_7 && (a0_8 == a1_8)) = true then (if (a0_9 == a1_9 && (a0_10 == a1_10)) = true then (if a0_11.toList = a1_11.toList then (some (a0_12.toList == a1_12.toList)) else (some false)) else (some false)) else (some false)) else (some false)) else (some false)) else (some false))) else (some false)) else (some false)
theorem topiaryref05_Same.mono : ∀ a0 a1 a2 a3 a4 a5 a6 a7 a8 a9 a10 a11 a12 a13 a14 a15 a16 a17 a18 a19 a20 a21 a22 a23 a24 a25 k, LeO (topiaryref05_Same.f k a0 a1 a2 a3 a4 a5 a6 a7 a8 a9 a10 a11 a12 a13 a14 a15 a16 a17 a18 a19 a20 a21 a22 a23 a24 a25) (topiaryref05_Same.f (k + 1) a0 a1 a2 a3 a4 a5 a6 a7 a8 a9 a10 a11 a12 a13 a14 a15 a16 a17 a18 a19 a20 a21 a22 a23 a24 a25) := by
 intro a0 a1 a2 a3 a4 a5 a6 a7 a8 a9 a10 a11 a12 a13 a14 a15 a16 a17 a18 a19 a20 a21 a22 a23 a24 a25 k
 unfold topiaryref05_Same.f
 repeat' first
   | (with_reducible exact topiaryref02_Same.mono _ _ _)
   | (with_reducible exact LeO.refl _)
   | (with_reducible exact LeO.none _)
   | (with_reducible refine LeO.ite ?_ ?_)
   | (with_reducible refine LeO.bind ?_ (fun _ => ?_))
   | exact topiaryref02_Same.mono _ _ _
   | exact LeO.none _
   | refine LeO.ite ?_ ?_
   | refine LeO.bind ?_ (fun _ => ?_)
set_option maxHeartbeats 8000000 in
set_option maxRecDepth 100000 in
theorem topiaryref05_Same.calls (k : Nat) (a0_0 : Int) (a0_1 : Int) (a0_2 : Int) (A0_3 : Option Addr) (c0_3 : Nat) (l0_3 : List Int) (a0_4 : Int) (a0_5 : Int) (a0_6 : Int) (a0_7 : Int) (a0_8 : Int) (a0_9 : Int) (a0_10 : Int) (a0_11 : ByteArray) (a0_12 : ByteArray) (a1_0 : Int) (a1_1 : Int) (a1_2 : Int) (A1_3 : Option Addr) (c1_3 : Nat) (l1_3 : List Int) (a1_4 : Int) (a1_5 : Int) (a1_6 : Int) (a1_7 : Int) (a1_8 : Int) (a1_9 : Int) (a1_10 : Int) (a1_11 : ByteArray) (a1_12 : ByteArray) (r : Bool) (w : World) (hr0_3 : Kd.C (Kd.int .i64) w A0_3 l0_3.length l0_3) (hc0_3 : l0_3.length ≤ c0_3) (hr1_3 : Kd.C (Kd.int .i64) w A1_3 l1_3.length l1_3) (hc1_3 : l1_3.length ≤ c1_3) (h : topiaryref05_Same.f k a0_0 a0_1 a0_2 l0_3 a0_4 a0_5 a0_6 a0_7 a0_8 a0_9 a0_10 a0_11 a0_12 a1_0 a1_1 a1_2 l1_3 a1_4 a1_5 a1_6 a1_7 a1_8 a1_9 a1_10 a1_11 a1_12 = some r) :
  Calls Try.prog 45 #[.agg #[.int .i64 a0_0, .int .i64 a0_1, .int .i64 a0_2, .slice A0_3 l0_3.length c0_3, .int .i64 a0_4, .int .i64 a0_5, .int .i64 a0_6, .int .i64 a0_7, .int .i64 a0_8, .int .i64 a0_9, .int .i64 a0_10, .string a0_11, .string a0_12], .agg #[.int .i64 a1_0, .int .i64 a1_1, .int .i64 a1_2, .slice A1_3 l1_3.length c1_3, .int .i64 a1_4, .int .i64 a1_5, .int .i64 a1_6, .int .i64 a1_7, .int .i64 a1_8, .int .i64 a1_9, .int .i64 a1_10, .string a1_11, .string a1_12]] w fun e w' => e = .returned (.bool r) ∧ Below w.heap.size w w' := by
 have hu32 := Try.underlying32
 have hu30 := Try.underlying30
 have HR0_3 := Aside0.mk hr0_3
 have HC0_3 := Aside0.mk hc0_3
 clear hr0_3 hc0_3
 have HR1_3 := Aside0.mk hr1_3
 have HC1_3 := Aside0.mk hc1_3
 clear hr1_3 hc1_3
 have HB := Aside0.mk (Below.refl w.heap.size w)
 have H : (if (a0_0 == a1_0 && (a0_1 == a1_1)) = true then (if a0_2 = a1_2 then ((topiaryref02_Same.f k l0_3 l1_3).bind fun t125 => (if t125 = true then (if a0_4 = a1_4 then (if (a0_5 == a1_5 && (a0_6 == a1_6)) = true then (if (a0_7 == a1_7 && (a0_8 == a1_8)) = true then (if (a0_9 == a1_9 && (a0_10 == a1_10)) = true then (if a0_11.toList = a1_11.toList then (some (a0_12.toList == a1_12.toList)) else (some false)) else (some false)) else (some false)) else (some false)) else (some false)) else (some false))) else (some false)) else (some false)) = some r := h
 clear h
 by_cases c3 : (a0_0 == a1_0 && (a0_1 == a1_1)) = true
 ·rw [if_pos c3] at H
  have c3b0 : (a0_0 == a1_0 && (a0_1 == a1_1)) = true := c3
  (try (have c3b1 : decide (a0_0 = a1_0 && (a0_1 == a1_1)) = true := by simpa using c3))
  (try (have c3b2 : (a0_0 == a1_0 && (a0_1 == a1_1)) = true := by simpa using c3))
  clear c3
  by_cases c4 : a0_2 = a1_2
  ·rw [if_pos c4] at H
   have c4b0 : (a0_2 == a1_2) = true := beq_iff_eq.mpr c4
   have c4b1 : (a0_2 != a1_2) = false := bne_eq_false_iff_eq.mpr c4
   clear c4
   replace H := Option.bind_eq_some_iff.mp H
   obtain ⟨t125, A50, H⟩ := H
   replace H : (if t125 = true then (if a0_4 = a1_4 then (if (a0_5 == a1_5 && (a0_6 == a1_6)) = true then (if (a0_7 == a1_7 && (a0_8 == a1_8)) = true then (if (a0_9 == a1_9 && (a0_10 == a1_10)) = true then (if a0_11.toList = a1_11.toList then (some (a0_12.toList == a1_12.toList)) else (some false)) else (some false)) else (some false)) else (some false)) else (some false)) else (some false)) = some r := H
   have A5 := Aside0.mk A50
   clear A50
   by_cases c6 : t125 = true
   ·subst c6
    have H1 : (if a0_4 = a1_4 then (if (a0_5 == a1_5 && (a0_6 == a1_6)) = true then (if (a0_7 == a1_7 && (a0_8 == a1_8)) = true then (if (a0_9 == a1_9 && (a0_10 == a1_10)) = true then (if a0_11.toList = a1_11.toList then (some (a0_12.toList == a1_12.toList)) else (some false)) else (some false)) else (some false)) else (some false)) else (some false)) = some r := by rw [if_pos rfl] at H; exact H
    clear H
    have H := H1
    clear H1
    by_cases c7 : a0_4 = a1_4
    ·rw [if_pos c7] at H
     have c7b0 : (a0_4 == a1_4) = true := beq_iff_eq.mpr c7
     have c7b1 : (a0_4 != a1_4) = false := bne_eq_false_iff_eq.mpr c7
     clear c7
     by_cases c8 : (a0_5 == a1_5 && (a0_6 == a1_6)) = true
     ·rw [if_pos c8] at H
      have c8b0 : (a0_5 == a1_5 && (a0_6 == a1_6)) = true := c8
      (try (have c8b1 : decide (a0_5 = a1_5 && (a0_6 == a1_6)) = true := by simpa using c8))
      (try (have c8b2 : (a0_5 == a1_5 && (a0_6 == a1_6)) = true := by simpa using c8))
      clear c8
      by_cases c9 : (a0_7 == a1_7 && (a0_8 == a1_8)) = true
      ·rw [if_pos c9] at H
       have c9b0 : (a0_7 == a1_7 && (a0_8 == a1_8)) = true := c9
       (try (have c9b1 : decide (a0_7 = a1_7 && (a0_8 == a1_8)) = true := by simpa using c9))
       (try (have c9b2 : (a0_7 == a1_7 && (a0_8 == a1_8)) = true := by simpa using c9))
       clear c9
       by_cases c10 : (a0_9 == a1_9 && (a0_10 == a1_10)) = true
       ·rw [if_pos c10] at H
        have c10b0 : (a0_9 == a1_9 && (a0_10 == a1_10)) = true := c10
        (try (have c10b1 : decide (a0_9 = a1_9 && (a0_10 == a1_10)) = true := by simpa using c10))
        (try (have c10b2 : (a0_9 == a1_9 && (a0_10 == a1_10)) = true := by simpa using c10))
        clear c10
        by_cases c11 : a0_11.toList = a1_11.toList
        ·rw [if_pos c11] at H
         have c11b0 : (a0_11.toList == a1_11.toList) = true := beq_iff_eq.mpr c11
         have c11b1 : (a0_11.toList != a1_11.toList) = false := bne_eq_false_iff_eq.mpr c11
         clear c11
         obtain rfl := Option.some.inj H
         go_enter Try.func45, Try.ntmps45
         go_wp2_with (first | ((with_reducible refine gate_dst (N := 2) rfl ?_); refine box_event ?hg (N := 2) ?hd (cs := #[.int .i64 a0_0, .int .i64 a0_1, .int .i64 a0_2, .slice A0_3 l0_3.length c0_3, .int .i64 a0_4, .int .i64 a0_5, .int .i64 a0_6, .int .i64 a0_7, .int .i64 a0_8, .int .i64 a0_9, .int .i64 a0_10, .string a0_11, .string a0_12]) (t := 32) ?hr ?_; (case hd => rfl); (case hg => rfl); (case hr => first | (go_simp; done) | (go_simp; rfl)); intro gb123 hg w12 hbox hb; have n0_ := Aside0.mk (below_step (by repeat (first | (with_reducible first | exact HB.out | apply below_alloc | apply pw_below_drewN | apply below_drew1) | exact HB.out)) hb); have n1_ := Aside0.mk (hbox); have n2_ := Aside0.mk ((by rw [hg]; exact (below_size (by repeat (first | (with_reducible first | exact HB.out | apply below_alloc | apply pw_below_drewN | apply below_drew1) | exact HB.out))) : w.heap.size ≤ gb123)); have n3_ := Aside0.mk ((by rw [hg]; exact (below_size (by repeat (first | (with_reducible first | exact HB.out | apply below_alloc | apply pw_below_drewN | apply below_drew1) | exact HB.out))) : w.heap.size ≤ gb123)); clear HB; have HB := n0_; have BK123 := n1_; have GW123 := n2_; have GE123 := n3_; clear n0_ n1_ n2_ n3_; clear hb hbox hg) | ((with_reducible refine gate_dst (N := 3) rfl ?_); refine box_event ?hg (N := 3) ?hd (cs := #[.int .i64 a1_0, .int .i64 a1_1, .int .i64 a1_2, .slice A1_3 l1_3.length c1_3, .int .i64 a1_4, .int .i64 a1_5, .int .i64 a1_6, .int .i64 a1_7, .int .i64 a1_8, .int .i64 a1_9, .int .i64 a1_10, .string a1_11, .string a1_12]) (t := 32) ?hr ?_; (case hd => rfl); (case hg => rfl); (case hr => first | (go_simp; done) | (go_simp; rfl)); intro gb124 hg w13 hbox hb; have n0_ := Aside0.mk (blk_below (g := gb123) (o := .cells #[.int .i64 a0_0, .int .i64 a0_1, .int .i64 a0_2, .slice A0_3 l0_3.length c0_3, .int .i64 a0_4, .int .i64 a0_5, .int .i64 a0_6, .int .i64 a0_7, .int .i64 a0_8, .int .i64 a0_9, .int .i64 a0_10, .string a0_11, .string a0_12] 32 (0, 0)) (by (with_reducible repeat (first | refine blk_drewN ?_ _ | refine blk_drew ?_ | refine blk_alloc ?_ _)); exact BK123.out) hb); have n1_ := Aside0.mk (below_step (by repeat (first | (with_reducible first | exact HB.out | apply below_alloc | apply pw_below_drewN | apply below_drew1 | refine below_set ?_ GE123.out) | exact HB.out)) hb); have n2_ := Aside0.mk (hbox); have n3_ := Aside0.mk ((by rw [hg]; exact (below_size (by repeat (first | (with_reducible first | exact HB.out | apply below_alloc | apply pw_below_drewN | apply below_drew1 | refine below_set ?_ GE123.out) | exact HB.out))) : w.heap.size ≤ gb124)); have n4_ := Aside0.mk ((by rw [hg]; exact (below_size (by repeat (first | (with_reducible first | exact HB.out | apply below_alloc | apply pw_below_drewN | apply below_drew1 | refine below_set ?_ GE123.out) | exact HB.out))) : w.heap.size ≤ gb124)); have n5_ := Aside0.mk ((by rw [hg]; exact Nat.ne_of_lt (blk_lt (g := gb123) (o := .cells #[.int .i64 a0_0, .int .i64 a0_1, .int .i64 a0_2, .slice A0_3 l0_3.length c0_3, .int .i64 a0_4, .int .i64 a0_5, .int .i64 a0_6, .int .i64 a0_7, .int .i64 a0_8, .int .i64 a0_9, .int .i64 a0_10, .string a0_11, .string a0_12] 32 (0, 0)) (by (with_reducible repeat (first | refine blk_drewN ?_ _ | refine blk_drew ?_ | refine blk_alloc ?_ _)); exact BK123.out)) : gb123 ≠ gb124)); have n6_ := Aside0.mk ((by rw [hg]; exact Nat.ne_of_gt (blk_lt (g := gb123) (o := .cells #[.int .i64 a0_0, .int .i64 a0_1, .int .i64 a0_2, .slice A0_3 l0_3.length c0_3, .int .i64 a0_4, .int .i64 a0_5, .int .i64 a0_6, .int .i64 a0_7, .int .i64 a0_8, .int .i64 a0_9, .int .i64 a0_10, .string a0_11, .string a0_12] 32 (0, 0)) (by (with_reducible repeat (first | refine blk_drewN ?_ _ | refine blk_drew ?_ | refine blk_alloc ?_ _)); exact BK123.out)) : gb124 ≠ gb123)); clear BK123; clear HB; have BK123 := n0_; have HB := n1_; have BK124 := n2_; have GW124 := n3_; have GE124 := n4_; have NB123_124 := n5_; have NB124_123 := n6_; clear n0_ n1_ n2_ n3_ n4_ n5_ n6_; clear hb hbox hg; have hnb14 := NB123_124.out; have hnc14 := NB124_123.out; obtain ⟨hcz15_0, hcz15_1, hcz15_2, hcz15_3, hcz15_4, hcz15_5, hcz15_6, hcz15_7, hcz15_8, hcz15_9, hcz15_10, hcz15_11, hcz15_12⟩ := cells13 BK123.out; obtain ⟨hfz15_0, hfz15_1, hfz15_2, hfz15_3, hfz15_4, hfz15_5, hfz15_6, hfz15_7, hfz15_8, hfz15_9, hfz15_10, hfz15_11, hfz15_12⟩ := froz13 BK123.out; obtain ⟨hcz16_0, hcz16_1, hcz16_2, hcz16_3, hcz16_4, hcz16_5, hcz16_6, hcz16_7, hcz16_8, hcz16_9, hcz16_10, hcz16_11, hcz16_12⟩ := cells13 BK124.out; obtain ⟨hfz16_0, hfz16_1, hfz16_2, hfz16_3, hfz16_4, hfz16_5, hfz16_6, hfz16_7, hfz16_8, hfz16_9, hfz16_10, hfz16_11, hfz16_12⟩ := froz13 BK124.out) | (go_at_call 24; (try simp only [← List.length_take, ← List.length_drop]); (with_reducible refine (topiaryref02_Same.calls k _ _ l0_3 _ _ l1_3 true _ ?side1 ?side2 ?side3 ?side4 A5.out).mono ?_); (case side1 => repeat (first | exact (Kd.C_below HR0_3.out HB.out) | (with_reducible refine Kd.C_alloc ?_ _) | (with_reducible refine Kd.C_drewN ?_ _) | (with_reducible refine Kd.C_drew ?_))); (case side2 => exact HC0_3.out); (case side3 => repeat (first | exact (Kd.C_below HR1_3.out HB.out) | (with_reducible refine Kd.C_alloc ?_ _) | (with_reducible refine Kd.C_drewN ?_ _) | (with_reducible refine Kd.C_drew ?_))); (case side4 => exact HC1_3.out); rintro e w' ⟨rfl, ⟨nd, rfl⟩⟩))
         go_ret
         exact ⟨by first | rfl | (simp [errW_none, errW_some] <;> rfl) | (simp [*, errW_none, errW_some] <;> rfl), by repeat (first | (with_reducible first | exact HB.out | apply below_alloc | apply pw_below_drewN | apply below_drew1 | refine below_set ?_ GE123.out | refine below_set ?_ GE124.out) | exact HB.out)⟩
        ·rw [if_neg c11] at H
         have c11b0 : (a0_11.toList == a1_11.toList) = false := beq_eq_false_iff_ne.mpr c11
         have c11b1 : (a0_11.toList != a1_11.toList) = true := bne_iff_ne.mpr c11
         obtain rfl := Option.some.inj H
         go_enter Try.func45, Try.ntmps45
         go_wp2_with (first | ((with_reducible refine gate_dst (N := 2) rfl ?_); refine box_event ?hg (N := 2) ?hd (cs := #[.int .i64 a0_0, .int .i64 a0_1, .int .i64 a0_2, .slice A0_3 l0_3.length c0_3, .int .i64 a0_4, .int .i64 a0_5, .int .i64 a0_6, .int .i64 a0_7, .int .i64 a0_8, .int .i64 a0_9, .int .i64 a0_10, .string a0_11, .string a0_12]) (t := 32) ?hr ?_; (case hd => rfl); (case hg => rfl); (case hr => first | (go_simp; done) | (go_simp; rfl)); intro gb123 hg w17 hbox hb; have n0_ := Aside0.mk (below_step (by repeat (first | (with_reducible first | exact HB.out | apply below_alloc | apply pw_below_drewN | apply below_drew1) | exact HB.out)) hb); have n1_ := Aside0.mk (hbox); have n2_ := Aside0.mk ((by rw [hg]; exact (below_size (by repeat (first | (with_reducible first | exact HB.out | apply below_alloc | apply pw_below_drewN | apply below_drew1) | exact HB.out))) : w.heap.size ≤ gb123)); have n3_ := Aside0.mk ((by rw [hg]; exact (below_size (by repeat (first | (with_reducible first | exact HB.out | apply below_alloc | apply pw_below_drewN | apply below_drew1) | exact HB.out))) : w.heap.size ≤ gb123)); clear HB; have HB := n0_; have BK123 := n1_; have GW123 := n2_; have GE123 := n3_; clear n0_ n1_ n2_ n3_; clear hb hbox hg) | ((with_reducible refine gate_dst (N := 3) rfl ?_); refine box_event ?hg (N := 3) ?hd (cs := #[.int .i64 a1_0, .int .i64 a1_1, .int .i64 a1_2, .slice A1_3 l1_3.length c1_3, .int .i64 a1_4, .int .i64 a1_5, .int .i64 a1_6, .int .i64 a1_7, .int .i64 a1_8, .int .i64 a1_9, .int .i64 a1_10, .string a1_11, .string a1_12]) (t := 32) ?hr ?_; (case hd => rfl); (case hg => rfl); (case hr => first | (go_simp; done) | (go_simp; rfl)); intro gb124 hg w18 hbox hb; have n0_ := Aside0.mk (blk_below (g := gb123) (o := .cells #[.int .i64 a0_0, .int .i64 a0_1, .int .i64 a0_2, .slice A0_3 l0_3.length c0_3, .int .i64 a0_4, .int .i64 a0_5, .int .i64 a0_6, .int .i64 a0_7, .int .i64 a0_8, .int .i64 a0_9, .int .i64 a0_10, .string a0_11, .string a0_12] 32 (0, 0)) (by (with_reducible repeat (first | refine blk_drewN ?_ _ | refine blk_drew ?_ | refine blk_alloc ?_ _)); exact BK123.out) hb); have n1_ := Aside0.mk (below_step (by repeat (first | (with_reducible first | exact HB.out | apply below_alloc | apply pw_below_drewN | apply below_drew1 | refine below_set ?_ GE123.out) | exact HB.out)) hb); have n2_ := Aside0.mk (hbox); have n3_ := Aside0.mk ((by rw [hg]; exact (below_size (by repeat (first | (with_reducible first | exact HB.out | apply below_alloc | apply pw_below_drewN | apply below_drew1 | refine below_set ?_ GE123.out) | exact HB.out))) : w.heap.size ≤ gb124)); have n4_ := Aside0.mk ((by rw [hg]; exact (below_size (by repeat (first | (with_reducible first | exact HB.out | apply below_alloc | apply pw_below_drewN | apply below_drew1 | refine below_set ?_ GE123.out) | exact HB.out))) : w.heap.size ≤ gb124)); have n5_ := Aside0.mk ((by rw [hg]; exact Nat.ne_of_lt (blk_lt (g := gb123) (o := .cells #[.int .i64 a0_0, .int .i64 a0_1, .int .i64 a0_2, .slice A0_3 l0_3.length c0_3, .int .i64 a0_4, .int .i64 a0_5, .int .i64 a0_6, .int .i64 a0_7, .int .i64 a0_8, .int .i64 a0_9, .int .i64 a0_10, .string a0_11, .string a0_12] 32 (0, 0)) (by (with_reducible repeat (first | refine blk_drewN ?_ _ | refine blk_drew ?_ | refine blk_alloc ?_ _)); exact BK123.out)) : gb123 ≠ gb124)); have n6_ := Aside0.mk ((by rw [hg]; exact Nat.ne_of_gt (blk_lt (g := gb123) (o := .cells #[.int .i64 a0_0, .int .i64 a0_1, .int .i64 a0_2, .slice A0_3 l0_3.length c0_3, .int .i64 a0_4, .int .i64 a0_5, .int .i64 a0_6, .int .i64 a0_7, .int .i64 a0_8, .int .i64 a0_9, .int .i64 a0_10, .string a0_11, .string a0_12] 32 (0, 0)) (by (with_reducible repeat (first | refine blk_drewN ?_ _ | refine blk_drew ?_ | refine blk_alloc ?_ _)); exact BK123.out)) : gb124 ≠ gb123)); clear BK123; clear HB; have BK123 := n0_; have HB := n1_; have BK124 := n2_; have GW124 := n3_; have GE124 := n4_; have NB123_124 := n5_; have NB124_123 := n6_; clear n0_ n1_ n2_ n3_ n4_ n5_ n6_; clear hb hbox hg; have hnb19 := NB123_124.out; have hnc19 := NB124_123.out; obtain ⟨hcz20_0, hcz20_1, hcz20_2, hcz20_3, hcz20_4, hcz20_5, hcz20_6, hcz20_7, hcz20_8, hcz20_9, hcz20_10, hcz20_11, hcz20_12⟩ := cells13 BK123.out; obtain ⟨hfz20_0, hfz20_1, hfz20_2, hfz20_3, hfz20_4, hfz20_5, hfz20_6, hfz20_7, hfz20_8, hfz20_9, hfz20_10, hfz20_11, hfz20_12⟩ := froz13 BK123.out; obtain ⟨hcz21_0, hcz21_1, hcz21_2, hcz21_3, hcz21_4, hcz21_5, hcz21_6, hcz21_7, hcz21_8, hcz21_9, hcz21_10, hcz21_11, hcz21_12⟩ := cells13 BK124.out; obtain ⟨hfz21_0, hfz21_1, hfz21_2, hfz21_3, hfz21_4, hfz21_5, hfz21_6, hfz21_7, hfz21_8, hfz21_9, hfz21_10, hfz21_11, hfz21_12⟩ := froz13 BK124.out) | (go_at_call 24; (try simp only [← List.length_take, ← List.length_drop]); (with_reducible refine (topiaryref02_Same.calls k _ _ l0_3 _ _ l1_3 true _ ?side1 ?side2 ?side3 ?side4 A5.out).mono ?_); (case side1 => repeat (first | exact (Kd.C_below HR0_3.out HB.out) | (with_reducible refine Kd.C_alloc ?_ _) | (with_reducible refine Kd.C_drewN ?_ _) | (with_reducible refine Kd.C_drew ?_))); (case side2 => exact HC0_3.out); (case side3 => repeat (first | exact (Kd.C_below HR1_3.out HB.out) | (with_reducible refine Kd.C_alloc ?_ _) | (with_reducible refine Kd.C_drewN ?_ _) | (with_reducible refine Kd.C_drew ?_))); (case side4 => exact HC1_3.out); rintro e w' ⟨rfl, ⟨nd, rfl⟩⟩))
         go_ret
         exact ⟨by first | rfl | (simp [errW_none, errW_some] <;> rfl) | (simp [*, errW_none, errW_some] <;> rfl), by repeat (first | (with_reducible first | exact HB.out | apply below_alloc | apply pw_below_drewN | apply below_drew1 | refine below_set ?_ GE123.out | refine below_set ?_ GE124.out) | exact HB.out)⟩
       ·rw [if_neg c10] at H
        have c10b0 : (a0_9 == a1_9 && (a0_10 == a1_10)) = false := by simpa using c10
        (try (have c10b1 : decide (a0_9 = a1_9 && (a0_10 == a1_10)) = false := by simpa using c10))
        (try (have c10b2 : (a0_9 == a1_9 && (a0_10 == a1_10)) = false := by simpa using c10))
        (try (have c10b3 : ¬ (a0_9 = a1_9 && (a0_10 == a1_10)) := by simpa using c10))
        clear c10
        obtain rfl := Option.some.inj H
        go_enter Try.func45, Try.ntmps45
        go_wp2_with (first | ((with_reducible refine gate_dst (N := 2) rfl ?_); refine box_event ?hg (N := 2) ?hd (cs := #[.int .i64 a0_0, .int .i64 a0_1, .int .i64 a0_2, .slice A0_3 l0_3.length c0_3, .int .i64 a0_4, .int .i64 a0_5, .int .i64 a0_6, .int .i64 a0_7, .int .i64 a0_8, .int .i64 a0_9, .int .i64 a0_10, .string a0_11, .string a0_12]) (t := 32) ?hr ?_; (case hd => rfl); (case hg => rfl); (case hr => first | (go_simp; done) | (go_simp; rfl)); intro gb123 hg w22 hbox hb; have n0_ := Aside0.mk (below_step (by repeat (first | (with_reducible first | exact HB.out | apply below_alloc | apply pw_below_drewN | apply below_drew1) | exact HB.out)) hb); have n1_ := Aside0.mk (hbox); have n2_ := Aside0.mk ((by rw [hg]; exact (below_size (by repeat (first | (with_reducible first | exact HB.out | apply below_alloc | apply pw_below_drewN | apply below_drew1) | exact HB.out))) : w.heap.size ≤ gb123)); have n3_ := Aside0.mk ((by rw [hg]; exact (below_size (by repeat (first | (with_reducible first | exact HB.out | apply below_alloc | apply pw_below_drewN | apply below_drew1) | exact HB.out))) : w.heap.size ≤ gb123)); clear HB; have HB := n0_; have BK123 := n1_; have GW123 := n2_; have GE123 := n3_; clear n0_ n1_ n2_ n3_; clear hb hbox hg) | ((with_reducible refine gate_dst (N := 3) rfl ?_); refine box_event ?hg (N := 3) ?hd (cs := #[.int .i64 a1_0, .int .i64 a1_1, .int .i64 a1_2, .slice A1_3 l1_3.length c1_3, .int .i64 a1_4, .int .i64 a1_5, .int .i64 a1_6, .int .i64 a1_7, .int .i64 a1_8, .int .i64 a1_9, .int .i64 a1_10, .string a1_11, .string a1_12]) (t := 32) ?hr ?_; (case hd => rfl); (case hg => rfl); (case hr => first | (go_simp; done) | (go_simp; rfl)); intro gb124 hg w23 hbox hb; have n0_ := Aside0.mk (blk_below (g := gb123) (o := .cells #[.int .i64 a0_0, .int .i64 a0_1, .int .i64 a0_2, .slice A0_3 l0_3.length c0_3, .int .i64 a0_4, .int .i64 a0_5, .int .i64 a0_6, .int .i64 a0_7, .int .i64 a0_8, .int .i64 a0_9, .int .i64 a0_10, .string a0_11, .string a0_12] 32 (0, 0)) (by (with_reducible repeat (first | refine blk_drewN ?_ _ | refine blk_drew ?_ | refine blk_alloc ?_ _)); exact BK123.out) hb); have n1_ := Aside0.mk (below_step (by repeat (first | (with_reducible first | exact HB.out | apply below_alloc | apply pw_below_drewN | apply below_drew1 | refine below_set ?_ GE123.out) | exact HB.out)) hb); have n2_ := Aside0.mk (hbox); have n3_ := Aside0.mk ((by rw [hg]; exact (below_size (by repeat (first | (with_reducible first | exact HB.out | apply below_alloc | apply pw_below_drewN | apply below_drew1 | refine below_set ?_ GE123.out) | exact HB.out))) : w.heap.size ≤ gb124)); have n4_ := Aside0.mk ((by rw [hg]; exact (below_size (by repeat (first | (with_reducible first | exact HB.out | apply below_alloc | apply pw_below_drewN | apply below_drew1 | refine below_set ?_ GE123.out) | exact HB.out))) : w.heap.size ≤ gb124)); have n5_ := Aside0.mk ((by rw [hg]; exact Nat.ne_of_lt (blk_lt (g := gb123) (o := .cells #[.int .i64 a0_0, .int .i64 a0_1, .int .i64 a0_2, .slice A0_3 l0_3.length c0_3, .int .i64 a0_4, .int .i64 a0_5, .int .i64 a0_6, .int .i64 a0_7, .int .i64 a0_8, .int .i64 a0_9, .int .i64 a0_10, .string a0_11, .string a0_12] 32 (0, 0)) (by (with_reducible repeat (first | refine blk_drewN ?_ _ | refine blk_drew ?_ | refine blk_alloc ?_ _)); exact BK123.out)) : gb123 ≠ gb124)); have n6_ := Aside0.mk ((by rw [hg]; exact Nat.ne_of_gt (blk_lt (g := gb123) (o := .cells #[.int .i64 a0_0, .int .i64 a0_1, .int .i64 a0_2, .slice A0_3 l0_3.length c0_3, .int .i64 a0_4, .int .i64 a0_5, .int .i64 a0_6, .int .i64 a0_7, .int .i64 a0_8, .int .i64 a0_9, .int .i64 a0_10, .string a0_11, .string a0_12] 32 (0, 0)) (by (with_reducible repeat (first | refine blk_drewN ?_ _ | refine blk_drew ?_ | refine blk_alloc ?_ _)); exact BK123.out)) : gb124 ≠ gb123)); clear BK123; clear HB; have BK123 := n0_; have HB := n1_; have BK124 := n2_; have GW124 := n3_; have GE124 := n4_; have NB123_124 := n5_; have NB124_123 := n6_; clear n0_ n1_ n2_ n3_ n4_ n5_ n6_; clear hb hbox hg; have hnb24 := NB123_124.out; have hnc24 := NB124_123.out; obtain ⟨hcz25_0, hcz25_1, hcz25_2, hcz25_3, hcz25_4, hcz25_5, hcz25_6, hcz25_7, hcz25_8, hcz25_9, hcz25_10, hcz25_11, hcz25_12⟩ := cells13 BK123.out; obtain ⟨hfz25_0, hfz25_1, hfz25_2, hfz25_3, hfz25_4, hfz25_5, hfz25_6, hfz25_7, hfz25_8, hfz25_9, hfz25_10, hfz25_11, hfz25_12⟩ := froz13 BK123.out; obtain ⟨hcz26_0, hcz26_1, hcz26_2, hcz26_3, hcz26_4, hcz26_5, hcz26_6, hcz26_7, hcz26_8, hcz26_9, hcz26_10, hcz26_11, hcz26_12⟩ := cells13 BK124.out; obtain ⟨hfz26_0, hfz26_1, hfz26_2, hfz26_3, hfz26_4, hfz26_5, hfz26_6, hfz26_7, hfz26_8, hfz26_9, hfz26_10, hfz26_11, hfz26_12⟩ := froz13 BK124.out) | (go_at_call 24; (try simp only [← List.length_take, ← List.length_drop]); (with_reducible refine (topiaryref02_Same.calls k _ _ l0_3 _ _ l1_3 true _ ?side1 ?side2 ?side3 ?side4 A5.out).mono ?_); (case side1 => repeat (first | exact (Kd.C_below HR0_3.out HB.out) | (with_reducible refine Kd.C_alloc ?_ _) | (with_reducible refine Kd.C_drewN ?_ _) | (with_reducible refine Kd.C_drew ?_))); (case side2 => exact HC0_3.out); (case side3 => repeat (first | exact (Kd.C_below HR1_3.out HB.out) | (with_reducible refine Kd.C_alloc ?_ _) | (with_reducible refine Kd.C_drewN ?_ _) | (with_reducible refine Kd.C_drew ?_))); (case side4 => exact HC1_3.out); rintro e w' ⟨rfl, ⟨nd, rfl⟩⟩))
        go_ret
        exact ⟨by first | rfl | (simp [errW_none, errW_some] <;> rfl) | (simp [*, errW_none, errW_some] <;> rfl), by repeat (first | (with_reducible first | exact HB.out | apply below_alloc | apply pw_below_drewN | apply below_drew1 | refine below_set ?_ GE123.out | refine below_set ?_ GE124.out) | exact HB.out)⟩
      ·rw [if_neg c9] at H
       have c9b0 : (a0_7 == a1_7 && (a0_8 == a1_8)) = false := by simpa using c9
       (try (have c9b1 : decide (a0_7 = a1_7 && (a0_8 == a1_8)) = false := by simpa using c9))
       (try (have c9b2 : (a0_7 == a1_7 && (a0_8 == a1_8)) = false := by simpa using c9))
       (try (have c9b3 : ¬ (a0_7 = a1_7 && (a0_8 == a1_8)) := by simpa using c9))
       clear c9
       obtain rfl := Option.some.inj H
       go_enter Try.func45, Try.ntmps45
       go_wp2_with (first | ((with_reducible refine gate_dst (N := 2) rfl ?_); refine box_event ?hg (N := 2) ?hd (cs := #[.int .i64 a0_0, .int .i64 a0_1, .int .i64 a0_2, .slice A0_3 l0_3.length c0_3, .int .i64 a0_4, .int .i64 a0_5, .int .i64 a0_6, .int .i64 a0_7, .int .i64 a0_8, .int .i64 a0_9, .int .i64 a0_10, .string a0_11, .string a0_12]) (t := 32) ?hr ?_; (case hd => rfl); (case hg => rfl); (case hr => first | (go_simp; done) | (go_simp; rfl)); intro gb123 hg w27 hbox hb; have n0_ := Aside0.mk (below_step (by repeat (first | (with_reducible first | exact HB.out | apply below_alloc | apply pw_below_drewN | apply below_drew1) | exact HB.out)) hb); have n1_ := Aside0.mk (hbox); have n2_ := Aside0.mk ((by rw [hg]; exact (below_size (by repeat (first | (with_reducible first | exact HB.out | apply below_alloc | apply pw_below_drewN | apply below_drew1) | exact HB.out))) : w.heap.size ≤ gb123)); have n3_ := Aside0.mk ((by rw [hg]; exact (below_size (by repeat (first | (with_reducible first | exact HB.out | apply below_alloc | apply pw_below_drewN | apply below_drew1) | exact HB.out))) : w.heap.size ≤ gb123)); clear HB; have HB := n0_; have BK123 := n1_; have GW123 := n2_; have GE123 := n3_; clear n0_ n1_ n2_ n3_; clear hb hbox hg) | ((with_reducible refine gate_dst (N := 3) rfl ?_); refine box_event ?hg (N := 3) ?hd (cs := #[.int .i64 a1_0, .int .i64 a1_1, .int .i64 a1_2, .slice A1_3 l1_3.length c1_3, .int .i64 a1_4, .int .i64 a1_5, .int .i64 a1_6, .int .i64 a1_7, .int .i64 a1_8, .int .i64 a1_9, .int .i64 a1_10, .string a1_11, .string a1_12]) (t := 32) ?hr ?_; (case hd => rfl); (case hg => rfl); (case hr => first | (go_simp; done) | (go_simp; rfl)); intro gb124 hg w28 hbox hb; have n0_ := Aside0.mk (blk_below (g := gb123) (o := .cells #[.int .i64 a0_0, .int .i64 a0_1, .int .i64 a0_2, .slice A0_3 l0_3.length c0_3, .int .i64 a0_4, .int .i64 a0_5, .int .i64 a0_6, .int .i64 a0_7, .int .i64 a0_8, .int .i64 a0_9, .int .i64 a0_10, .string a0_11, .string a0_12] 32 (0, 0)) (by (with_reducible repeat (first | refine blk_drewN ?_ _ | refine blk_drew ?_ | refine blk_alloc ?_ _)); exact BK123.out) hb); have n1_ := Aside0.mk (below_step (by repeat (first | (with_reducible first | exact HB.out | apply below_alloc | apply pw_below_drewN | apply below_drew1 | refine below_set ?_ GE123.out) | exact HB.out)) hb); have n2_ := Aside0.mk (hbox); have n3_ := Aside0.mk ((by rw [hg]; exact (below_size (by repeat (first | (with_reducible first | exact HB.out | apply below_alloc | apply pw_below_drewN | apply below_drew1 | refine below_set ?_ GE123.out) | exact HB.out))) : w.heap.size ≤ gb124)); have n4_ := Aside0.mk ((by rw [hg]; exact (below_size (by repeat (first | (with_reducible first | exact HB.out | apply below_alloc | apply pw_below_drewN | apply below_drew1 | refine below_set ?_ GE123.out) | exact HB.out))) : w.heap.size ≤ gb124)); have n5_ := Aside0.mk ((by rw [hg]; exact Nat.ne_of_lt (blk_lt (g := gb123) (o := .cells #[.int .i64 a0_0, .int .i64 a0_1, .int .i64 a0_2, .slice A0_3 l0_3.length c0_3, .int .i64 a0_4, .int .i64 a0_5, .int .i64 a0_6, .int .i64 a0_7, .int .i64 a0_8, .int .i64 a0_9, .int .i64 a0_10, .string a0_11, .string a0_12] 32 (0, 0)) (by (with_reducible repeat (first | refine blk_drewN ?_ _ | refine blk_drew ?_ | refine blk_alloc ?_ _)); exact BK123.out)) : gb123 ≠ gb124)); have n6_ := Aside0.mk ((by rw [hg]; exact Nat.ne_of_gt (blk_lt (g := gb123) (o := .cells #[.int .i64 a0_0, .int .i64 a0_1, .int .i64 a0_2, .slice A0_3 l0_3.length c0_3, .int .i64 a0_4, .int .i64 a0_5, .int .i64 a0_6, .int .i64 a0_7, .int .i64 a0_8, .int .i64 a0_9, .int .i64 a0_10, .string a0_11, .string a0_12] 32 (0, 0)) (by (with_reducible repeat (first | refine blk_drewN ?_ _ | refine blk_drew ?_ | refine blk_alloc ?_ _)); exact BK123.out)) : gb124 ≠ gb123)); clear BK123; clear HB; have BK123 := n0_; have HB := n1_; have BK124 := n2_; have GW124 := n3_; have GE124 := n4_; have NB123_124 := n5_; have NB124_123 := n6_; clear n0_ n1_ n2_ n3_ n4_ n5_ n6_; clear hb hbox hg; have hnb29 := NB123_124.out; have hnc29 := NB124_123.out; obtain ⟨hcz30_0, hcz30_1, hcz30_2, hcz30_3, hcz30_4, hcz30_5, hcz30_6, hcz30_7, hcz30_8, hcz30_9, hcz30_10, hcz30_11, hcz30_12⟩ := cells13 BK123.out; obtain ⟨hfz30_0, hfz30_1, hfz30_2, hfz30_3, hfz30_4, hfz30_5, hfz30_6, hfz30_7, hfz30_8, hfz30_9, hfz30_10, hfz30_11, hfz30_12⟩ := froz13 BK123.out; obtain ⟨hcz31_0, hcz31_1, hcz31_2, hcz31_3, hcz31_4, hcz31_5, hcz31_6, hcz31_7, hcz31_8, hcz31_9, hcz31_10, hcz31_11, hcz31_12⟩ := cells13 BK124.out; obtain ⟨hfz31_0, hfz31_1, hfz31_2, hfz31_3, hfz31_4, hfz31_5, hfz31_6, hfz31_7, hfz31_8, hfz31_9, hfz31_10, hfz31_11, hfz31_12⟩ := froz13 BK124.out) | (go_at_call 24; (try simp only [← List.length_take, ← List.length_drop]); (with_reducible refine (topiaryref02_Same.calls k _ _ l0_3 _ _ l1_3 true _ ?side1 ?side2 ?side3 ?side4 A5.out).mono ?_); (case side1 => repeat (first | exact (Kd.C_below HR0_3.out HB.out) | (with_reducible refine Kd.C_alloc ?_ _) | (with_reducible refine Kd.C_drewN ?_ _) | (with_reducible refine Kd.C_drew ?_))); (case side2 => exact HC0_3.out); (case side3 => repeat (first | exact (Kd.C_below HR1_3.out HB.out) | (with_reducible refine Kd.C_alloc ?_ _) | (with_reducible refine Kd.C_drewN ?_ _) | (with_reducible refine Kd.C_drew ?_))); (case side4 => exact HC1_3.out); rintro e w' ⟨rfl, ⟨nd, rfl⟩⟩))
       go_ret
       exact ⟨by first | rfl | (simp [errW_none, errW_some] <;> rfl) | (simp [*, errW_none, errW_some] <;> rfl), by repeat (first | (with_reducible first | exact HB.out | apply below_alloc | apply pw_below_drewN | apply below_drew1 | refine below_set ?_ GE123.out | refine below_set ?_ GE124.out) | exact HB.out)⟩
     ·rw [if_neg c8] at H
      have c8b0 : (a0_5 == a1_5 && (a0_6 == a1_6)) = false := by simpa using c8
      (try (have c8b1 : decide (a0_5 = a1_5 && (a0_6 == a1_6)) = false := by simpa using c8))
      (try (have c8b2 : (a0_5 == a1_5 && (a0_6 == a1_6)) = false := by simpa using c8))
      (try (have c8b3 : ¬ (a0_5 = a1_5 && (a0_6 == a1_6)) := by simpa using c8))
      clear c8
      obtain rfl := Option.some.inj H
      go_enter Try.func45, Try.ntmps45
      go_wp2_with (first | ((with_reducible refine gate_dst (N := 2) rfl ?_); refine box_event ?hg (N := 2) ?hd (cs := #[.int .i64 a0_0, .int .i64 a0_1, .int .i64 a0_2, .slice A0_3 l0_3.length c0_3, .int .i64 a0_4, .int .i64 a0_5, .int .i64 a0_6, .int .i64 a0_7, .int .i64 a0_8, .int .i64 a0_9, .int .i64 a0_10, .string a0_11, .string a0_12]) (t := 32) ?hr ?_; (case hd => rfl); (case hg => rfl); (case hr => first | (go_simp; done) | (go_simp; rfl)); intro gb123 hg w32 hbox hb; have n0_ := Aside0.mk (below_step (by repeat (first | (with_reducible first | exact HB.out | apply below_alloc | apply pw_below_drewN | apply below_drew1) | exact HB.out)) hb); have n1_ := Aside0.mk (hbox); have n2_ := Aside0.mk ((by rw [hg]; exact (below_size (by repeat (first | (with_reducible first | exact HB.out | apply below_alloc | apply pw_below_drewN | apply below_drew1) | exact HB.out))) : w.heap.size ≤ gb123)); have n3_ := Aside0.mk ((by rw [hg]; exact (below_size (by repeat (first | (with_reducible first | exact HB.out | apply below_alloc | apply pw_below_drewN | apply below_drew1) | exact HB.out))) : w.heap.size ≤ gb123)); clear HB; have HB := n0_; have BK123 := n1_; have GW123 := n2_; have GE123 := n3_; clear n0_ n1_ n2_ n3_; clear hb hbox hg) | ((with_reducible refine gate_dst (N := 3) rfl ?_); refine box_event ?hg (N := 3) ?hd (cs := #[.int .i64 a1_0, .int .i64 a1_1, .int .i64 a1_2, .slice A1_3 l1_3.length c1_3, .int .i64 a1_4, .int .i64 a1_5, .int .i64 a1_6, .int .i64 a1_7, .int .i64 a1_8, .int .i64 a1_9, .int .i64 a1_10, .string a1_11, .string a1_12]) (t := 32) ?hr ?_; (case hd => rfl); (case hg => rfl); (case hr => first | (go_simp; done) | (go_simp; rfl)); intro gb124 hg w33 hbox hb; have n0_ := Aside0.mk (blk_below (g := gb123) (o := .cells #[.int .i64 a0_0, .int .i64 a0_1, .int .i64 a0_2, .slice A0_3 l0_3.length c0_3, .int .i64 a0_4, .int .i64 a0_5, .int .i64 a0_6, .int .i64 a0_7, .int .i64 a0_8, .int .i64 a0_9, .int .i64 a0_10, .string a0_11, .string a0_12] 32 (0, 0)) (by (with_reducible repeat (first | refine blk_drewN ?_ _ | refine blk_drew ?_ | refine blk_alloc ?_ _)); exact BK123.out) hb); have n1_ := Aside0.mk (below_step (by repeat (first | (with_reducible first | exact HB.out | apply below_alloc | apply pw_below_drewN | apply below_drew1 | refine below_set ?_ GE123.out) | exact HB.out)) hb); have n2_ := Aside0.mk (hbox); have n3_ := Aside0.mk ((by rw [hg]; exact (below_size (by repeat (first | (with_reducible first | exact HB.out | apply below_alloc | apply pw_below_drewN | apply below_drew1 | refine below_set ?_ GE123.out) | exact HB.out))) : w.heap.size ≤ gb124)); have n4_ := Aside0.mk ((by rw [hg]; exact (below_size (by repeat (first | (with_reducible first | exact HB.out | apply below_alloc | apply pw_below_drewN | apply below_drew1 | refine below_set ?_ GE123.out) | exact HB.out))) : w.heap.size ≤ gb124)); have n5_ := Aside0.mk ((by rw [hg]; exact Nat.ne_of_lt (blk_lt (g := gb123) (o := .cells #[.int .i64 a0_0, .int .i64 a0_1, .int .i64 a0_2, .slice A0_3 l0_3.length c0_3, .int .i64 a0_4, .int .i64 a0_5, .int .i64 a0_6, .int .i64 a0_7, .int .i64 a0_8, .int .i64 a0_9, .int .i64 a0_10, .string a0_11, .string a0_12] 32 (0, 0)) (by (with_reducible repeat (first | refine blk_drewN ?_ _ | refine blk_drew ?_ | refine blk_alloc ?_ _)); exact BK123.out)) : gb123 ≠ gb124)); have n6_ := Aside0.mk ((by rw [hg]; exact Nat.ne_of_gt (blk_lt (g := gb123) (o := .cells #[.int .i64 a0_0, .int .i64 a0_1, .int .i64 a0_2, .slice A0_3 l0_3.length c0_3, .int .i64 a0_4, .int .i64 a0_5, .int .i64 a0_6, .int .i64 a0_7, .int .i64 a0_8, .int .i64 a0_9, .int .i64 a0_10, .string a0_11, .string a0_12] 32 (0, 0)) (by (with_reducible repeat (first | refine blk_drewN ?_ _ | refine blk_drew ?_ | refine blk_alloc ?_ _)); exact BK123.out)) : gb124 ≠ gb123)); clear BK123; clear HB; have BK123 := n0_; have HB := n1_; have BK124 := n2_; have GW124 := n3_; have GE124 := n4_; have NB123_124 := n5_; have NB124_123 := n6_; clear n0_ n1_ n2_ n3_ n4_ n5_ n6_; clear hb hbox hg; have hnb34 := NB123_124.out; have hnc34 := NB124_123.out; obtain ⟨hcz35_0, hcz35_1, hcz35_2, hcz35_3, hcz35_4, hcz35_5, hcz35_6, hcz35_7, hcz35_8, hcz35_9, hcz35_10, hcz35_11, hcz35_12⟩ := cells13 BK123.out; obtain ⟨hfz35_0, hfz35_1, hfz35_2, hfz35_3, hfz35_4, hfz35_5, hfz35_6, hfz35_7, hfz35_8, hfz35_9, hfz35_10, hfz35_11, hfz35_12⟩ := froz13 BK123.out; obtain ⟨hcz36_0, hcz36_1, hcz36_2, hcz36_3, hcz36_4, hcz36_5, hcz36_6, hcz36_7, hcz36_8, hcz36_9, hcz36_10, hcz36_11, hcz36_12⟩ := cells13 BK124.out; obtain ⟨hfz36_0, hfz36_1, hfz36_2, hfz36_3, hfz36_4, hfz36_5, hfz36_6, hfz36_7, hfz36_8, hfz36_9, hfz36_10, hfz36_11, hfz36_12⟩ := froz13 BK124.out) | (go_at_call 24; (try simp only [← List.length_take, ← List.length_drop]); (with_reducible refine (topiaryref02_Same.calls k _ _ l0_3 _ _ l1_3 true _ ?side1 ?side2 ?side3 ?side4 A5.out).mono ?_); (case side1 => repeat (first | exact (Kd.C_below HR0_3.out HB.out) | (with_reducible refine Kd.C_alloc ?_ _) | (with_reducible refine Kd.C_drewN ?_ _) | (with_reducible refine Kd.C_drew ?_))); (case side2 => exact HC0_3.out); (case side3 => repeat (first | exact (Kd.C_below HR1_3.out HB.out) | (with_reducible refine Kd.C_alloc ?_ _) | (with_reducible refine Kd.C_drewN ?_ _) | (with_reducible refine Kd.C_drew ?_))); (case side4 => exact HC1_3.out); rintro e w' ⟨rfl, ⟨nd, rfl⟩⟩))
      go_ret
      exact ⟨by first | rfl | (simp [errW_none, errW_some] <;> rfl) | (simp [*, errW_none, errW_some] <;> rfl), by repeat (first | (with_reducible first | exact HB.out | apply below_alloc | apply pw_below_drewN | apply below_drew1 | refine below_set ?_ GE123.out | refine below_set ?_ GE124.out) | exact HB.out)⟩
    ·rw [if_neg c7] at H
     have c7b0 : (a0_4 == a1_4) = false := beq_eq_false_iff_ne.mpr c7
     have c7b1 : (a0_4 != a1_4) = true := bne_iff_ne.mpr c7
     obtain rfl := Option.some.inj H
     go_enter Try.func45, Try.ntmps45
     go_wp2_with (first | ((with_reducible refine gate_dst (N := 2) rfl ?_); refine box_event ?hg (N := 2) ?hd (cs := #[.int .i64 a0_0, .int .i64 a0_1, .int .i64 a0_2, .slice A0_3 l0_3.length c0_3, .int .i64 a0_4, .int .i64 a0_5, .int .i64 a0_6, .int .i64 a0_7, .int .i64 a0_8, .int .i64 a0_9, .int .i64 a0_10, .string a0_11, .string a0_12]) (t := 32) ?hr ?_; (case hd => rfl); (case hg => rfl); (case hr => first | (go_simp; done) | (go_simp; rfl)); intro gb123 hg w37 hbox hb; have n0_ := Aside0.mk (below_step (by repeat (first | (with_reducible first | exact HB.out | apply below_alloc | apply pw_below_drewN | apply below_drew1) | exact HB.out)) hb); have n1_ := Aside0.mk (hbox); have n2_ := Aside0.mk ((by rw [hg]; exact (below_size (by repeat (first | (with_reducible first | exact HB.out | apply below_alloc | apply pw_below_drewN | apply below_drew1) | exact HB.out))) : w.heap.size ≤ gb123)); have n3_ := Aside0.mk ((by rw [hg]; exact (below_size (by repeat (first | (with_reducible first | exact HB.out | apply below_alloc | apply pw_below_drewN | apply below_drew1) | exact HB.out))) : w.heap.size ≤ gb123)); clear HB; have HB := n0_; have BK123 := n1_; have GW123 := n2_; have GE123 := n3_; clear n0_ n1_ n2_ n3_; clear hb hbox hg) | ((with_reducible refine gate_dst (N := 3) rfl ?_); refine box_event ?hg (N := 3) ?hd (cs := #[.int .i64 a1_0, .int .i64 a1_1, .int .i64 a1_2, .slice A1_3 l1_3.length c1_3, .int .i64 a1_4, .int .i64 a1_5, .int .i64 a1_6, .int .i64 a1_7, .int .i64 a1_8, .int .i64 a1_9, .int .i64 a1_10, .string a1_11, .string a1_12]) (t := 32) ?hr ?_; (case hd => rfl); (case hg => rfl); (case hr => first | (go_simp; done) | (go_simp; rfl)); intro gb124 hg w38 hbox hb; have n0_ := Aside0.mk (blk_below (g := gb123) (o := .cells #[.int .i64 a0_0, .int .i64 a0_1, .int .i64 a0_2, .slice A0_3 l0_3.length c0_3, .int .i64 a0_4, .int .i64 a0_5, .int .i64 a0_6, .int .i64 a0_7, .int .i64 a0_8, .int .i64 a0_9, .int .i64 a0_10, .string a0_11, .string a0_12] 32 (0, 0)) (by (with_reducible repeat (first | refine blk_drewN ?_ _ | refine blk_drew ?_ | refine blk_alloc ?_ _)); exact BK123.out) hb); have n1_ := Aside0.mk (below_step (by repeat (first | (with_reducible first | exact HB.out | apply below_alloc | apply pw_below_drewN | apply below_drew1 | refine below_set ?_ GE123.out) | exact HB.out)) hb); have n2_ := Aside0.mk (hbox); have n3_ := Aside0.mk ((by rw [hg]; exact (below_size (by repeat (first | (with_reducible first | exact HB.out | apply below_alloc | apply pw_below_drewN | apply below_drew1 | refine below_set ?_ GE123.out) | exact HB.out))) : w.heap.size ≤ gb124)); have n4_ := Aside0.mk ((by rw [hg]; exact (below_size (by repeat (first | (with_reducible first | exact HB.out | apply below_alloc | apply pw_below_drewN | apply below_drew1 | refine below_set ?_ GE123.out) | exact HB.out))) : w.heap.size ≤ gb124)); have n5_ := Aside0.mk ((by rw [hg]; exact Nat.ne_of_lt (blk_lt (g := gb123) (o := .cells #[.int .i64 a0_0, .int .i64 a0_1, .int .i64 a0_2, .slice A0_3 l0_3.length c0_3, .int .i64 a0_4, .int .i64 a0_5, .int .i64 a0_6, .int .i64 a0_7, .int .i64 a0_8, .int .i64 a0_9, .int .i64 a0_10, .string a0_11, .string a0_12] 32 (0, 0)) (by (with_reducible repeat (first | refine blk_drewN ?_ _ | refine blk_drew ?_ | refine blk_alloc ?_ _)); exact BK123.out)) : gb123 ≠ gb124)); have n6_ := Aside0.mk ((by rw [hg]; exact Nat.ne_of_gt (blk_lt (g := gb123) (o := .cells #[.int .i64 a0_0, .int .i64 a0_1, .int .i64 a0_2, .slice A0_3 l0_3.length c0_3, .int .i64 a0_4, .int .i64 a0_5, .int .i64 a0_6, .int .i64 a0_7, .int .i64 a0_8, .int .i64 a0_9, .int .i64 a0_10, .string a0_11, .string a0_12] 32 (0, 0)) (by (with_reducible repeat (first | refine blk_drewN ?_ _ | refine blk_drew ?_ | refine blk_alloc ?_ _)); exact BK123.out)) : gb124 ≠ gb123)); clear BK123; clear HB; have BK123 := n0_; have HB := n1_; have BK124 := n2_; have GW124 := n3_; have GE124 := n4_; have NB123_124 := n5_; have NB124_123 := n6_; clear n0_ n1_ n2_ n3_ n4_ n5_ n6_; clear hb hbox hg; have hnb39 := NB123_124.out; have hnc39 := NB124_123.out; obtain ⟨hcz40_0, hcz40_1, hcz40_2, hcz40_3, hcz40_4, hcz40_5, hcz40_6, hcz40_7, hcz40_8, hcz40_9, hcz40_10, hcz40_11, hcz40_12⟩ := cells13 BK123.out; obtain ⟨hfz40_0, hfz40_1, hfz40_2, hfz40_3, hfz40_4, hfz40_5, hfz40_6, hfz40_7, hfz40_8, hfz40_9, hfz40_10, hfz40_11, hfz40_12⟩ := froz13 BK123.out; obtain ⟨hcz41_0, hcz41_1, hcz41_2, hcz41_3, hcz41_4, hcz41_5, hcz41_6, hcz41_7, hcz41_8, hcz41_9, hcz41_10, hcz41_11, hcz41_12⟩ := cells13 BK124.out; obtain ⟨hfz41_0, hfz41_1, hfz41_2, hfz41_3, hfz41_4, hfz41_5, hfz41_6, hfz41_7, hfz41_8, hfz41_9, hfz41_10, hfz41_11, hfz41_12⟩ := froz13 BK124.out) | (go_at_call 24; (try simp only [← List.length_take, ← List.length_drop]); (with_reducible refine (topiaryref02_Same.calls k _ _ l0_3 _ _ l1_3 true _ ?side1 ?side2 ?side3 ?side4 A5.out).mono ?_); (case side1 => repeat (first | exact (Kd.C_below HR0_3.out HB.out) | (with_reducible refine Kd.C_alloc ?_ _) | (with_reducible refine Kd.C_drewN ?_ _) | (with_reducible refine Kd.C_drew ?_))); (case side2 => exact HC0_3.out); (case side3 => repeat (first | exact (Kd.C_below HR1_3.out HB.out) | (with_reducible refine Kd.C_alloc ?_ _) | (with_reducible refine Kd.C_drewN ?_ _) | (with_reducible refine Kd.C_drew ?_))); (case side4 => exact HC1_3.out); rintro e w' ⟨rfl, ⟨nd, rfl⟩⟩))
     go_ret
     exact ⟨by first | rfl | (simp [errW_none, errW_some] <;> rfl) | (simp [*, errW_none, errW_some] <;> rfl), by repeat (first | (with_reducible first | exact HB.out | apply below_alloc | apply pw_below_drewN | apply below_drew1 | refine below_set ?_ GE123.out | refine below_set ?_ GE124.out) | exact HB.out)⟩
   ·replace c6 := Bool.eq_false_iff.mpr c6
    subst c6
    have H1 : (some false) = some r := by rw [if_neg (show ¬ (false = true) by decide)] at H; exact H
    clear H
    have H := H1
    clear H1
    obtain rfl := Option.some.inj H
    go_enter Try.func45, Try.ntmps45
    go_wp2_with (first | ((with_reducible refine gate_dst (N := 2) rfl ?_); refine box_event ?hg (N := 2) ?hd (cs := #[.int .i64 a0_0, .int .i64 a0_1, .int .i64 a0_2, .slice A0_3 l0_3.length c0_3, .int .i64 a0_4, .int .i64 a0_5, .int .i64 a0_6, .int .i64 a0_7, .int .i64 a0_8, .int .i64 a0_9, .int .i64 a0_10, .string a0_11, .string a0_12]) (t := 32) ?hr ?_; (case hd => rfl); (case hg => rfl); (case hr => first | (go_simp; done) | (go_simp; rfl)); intro gb123 hg w42 hbox hb; have n0_ := Aside0.mk (below_step (by repeat (first | (with_reducible first | exact HB.out | apply below_alloc | apply pw_below_drewN | apply below_drew1) | exact HB.out)) hb); have n1_ := Aside0.mk (hbox); have n2_ := Aside0.mk ((by rw [hg]; exact (below_size (by repeat (first | (with_reducible first | exact HB.out | apply below_alloc | apply pw_below_drewN | apply below_drew1) | exact HB.out))) : w.heap.size ≤ gb123)); have n3_ := Aside0.mk ((by rw [hg]; exact (below_size (by repeat (first | (with_reducible first | exact HB.out | apply below_alloc | apply pw_below_drewN | apply below_drew1) | exact HB.out))) : w.heap.size ≤ gb123)); clear HB; have HB := n0_; have BK123 := n1_; have GW123 := n2_; have GE123 := n3_; clear n0_ n1_ n2_ n3_; clear hb hbox hg) | ((with_reducible refine gate_dst (N := 3) rfl ?_); refine box_event ?hg (N := 3) ?hd (cs := #[.int .i64 a1_0, .int .i64 a1_1, .int .i64 a1_2, .slice A1_3 l1_3.length c1_3, .int .i64 a1_4, .int .i64 a1_5, .int .i64 a1_6, .int .i64 a1_7, .int .i64 a1_8, .int .i64 a1_9, .int .i64 a1_10, .string a1_11, .string a1_12]) (t := 32) ?hr ?_; (case hd => rfl); (case hg => rfl); (case hr => first | (go_simp; done) | (go_simp; rfl)); intro gb124 hg w43 hbox hb; have n0_ := Aside0.mk (blk_below (g := gb123) (o := .cells #[.int .i64 a0_0, .int .i64 a0_1, .int .i64 a0_2, .slice A0_3 l0_3.length c0_3, .int .i64 a0_4, .int .i64 a0_5, .int .i64 a0_6, .int .i64 a0_7, .int .i64 a0_8, .int .i64 a0_9, .int .i64 a0_10, .string a0_11, .string a0_12] 32 (0, 0)) (by (with_reducible repeat (first | refine blk_drewN ?_ _ | refine blk_drew ?_ | refine blk_alloc ?_ _)); exact BK123.out) hb); have n1_ := Aside0.mk (below_step (by repeat (first | (with_reducible first | exact HB.out | apply below_alloc | apply pw_below_drewN | apply below_drew1 | refine below_set ?_ GE123.out) | exact HB.out)) hb); have n2_ := Aside0.mk (hbox); have n3_ := Aside0.mk ((by rw [hg]; exact (below_size (by repeat (first | (with_reducible first | exact HB.out | apply below_alloc | apply pw_below_drewN | apply below_drew1 | refine below_set ?_ GE123.out) | exact HB.out))) : w.heap.size ≤ gb124)); have n4_ := Aside0.mk ((by rw [hg]; exact (below_size (by repeat (first | (with_reducible first | exact HB.out | apply below_alloc | apply pw_below_drewN | apply below_drew1 | refine below_set ?_ GE123.out) | exact HB.out))) : w.heap.size ≤ gb124)); have n5_ := Aside0.mk ((by rw [hg]; exact Nat.ne_of_lt (blk_lt (g := gb123) (o := .cells #[.int .i64 a0_0, .int .i64 a0_1, .int .i64 a0_2, .slice A0_3 l0_3.length c0_3, .int .i64 a0_4, .int .i64 a0_5, .int .i64 a0_6, .int .i64 a0_7, .int .i64 a0_8, .int .i64 a0_9, .int .i64 a0_10, .string a0_11, .string a0_12] 32 (0, 0)) (by (with_reducible repeat (first | refine blk_drewN ?_ _ | refine blk_drew ?_ | refine blk_alloc ?_ _)); exact BK123.out)) : gb123 ≠ gb124)); have n6_ := Aside0.mk ((by rw [hg]; exact Nat.ne_of_gt (blk_lt (g := gb123) (o := .cells #[.int .i64 a0_0, .int .i64 a0_1, .int .i64 a0_2, .slice A0_3 l0_3.length c0_3, .int .i64 a0_4, .int .i64 a0_5, .int .i64 a0_6, .int .i64 a0_7, .int .i64 a0_8, .int .i64 a0_9, .int .i64 a0_10, .string a0_11, .string a0_12] 32 (0, 0)) (by (with_reducible repeat (first | refine blk_drewN ?_ _ | refine blk_drew ?_ | refine blk_alloc ?_ _)); exact BK123.out)) : gb124 ≠ gb123)); clear BK123; clear HB; have BK123 := n0_; have HB := n1_; have BK124 := n2_; have GW124 := n3_; have GE124 := n4_; have NB123_124 := n5_; have NB124_123 := n6_; clear n0_ n1_ n2_ n3_ n4_ n5_ n6_; clear hb hbox hg; have hnb44 := NB123_124.out; have hnc44 := NB124_123.out; obtain ⟨hcz45_0, hcz45_1, hcz45_2, hcz45_3, hcz45_4, hcz45_5, hcz45_6, hcz45_7, hcz45_8, hcz45_9, hcz45_10, hcz45_11, hcz45_12⟩ := cells13 BK123.out; obtain ⟨hfz45_0, hfz45_1, hfz45_2, hfz45_3, hfz45_4, hfz45_5, hfz45_6, hfz45_7, hfz45_8, hfz45_9, hfz45_10, hfz45_11, hfz45_12⟩ := froz13 BK123.out; obtain ⟨hcz46_0, hcz46_1, hcz46_2, hcz46_3, hcz46_4, hcz46_5, hcz46_6, hcz46_7, hcz46_8, hcz46_9, hcz46_10, hcz46_11, hcz46_12⟩ := cells13 BK124.out; obtain ⟨hfz46_0, hfz46_1, hfz46_2, hfz46_3, hfz46_4, hfz46_5, hfz46_6, hfz46_7, hfz46_8, hfz46_9, hfz46_10, hfz46_11, hfz46_12⟩ := froz13 BK124.out) | (go_at_call 24; (try simp only [← List.length_take, ← List.length_drop]); (with_reducible refine (topiaryref02_Same.calls k _ _ l0_3 _ _ l1_3 false _ ?side1 ?side2 ?side3 ?side4 A5.out).mono ?_); (case side1 => repeat (first | exact (Kd.C_below HR0_3.out HB.out) | (with_reducible refine Kd.C_alloc ?_ _) | (with_reducible refine Kd.C_drewN ?_ _) | (with_reducible refine Kd.C_drew ?_))); (case side2 => exact HC0_3.out); (case side3 => repeat (first | exact (Kd.C_below HR1_3.out HB.out) | (with_reducible refine Kd.C_alloc ?_ _) | (with_reducible refine Kd.C_drewN ?_ _) | (with_reducible refine Kd.C_drew ?_))); (case side4 => exact HC1_3.out); rintro e w' ⟨rfl, ⟨nd, rfl⟩⟩))
    go_ret
    exact ⟨by first | rfl | (simp [errW_none, errW_some] <;> rfl) | (simp [*, errW_none, errW_some] <;> rfl), by repeat (first | (with_reducible first | exact HB.out | apply below_alloc | apply pw_below_drewN | apply below_drew1 | refine below_set ?_ GE123.out | refine below_set ?_ GE124.out) | exact HB.out)⟩
  ·rw [if_neg c4] at H
   have c4b0 : (a0_2 == a1_2) = false := beq_eq_false_iff_ne.mpr c4
   have c4b1 : (a0_2 != a1_2) = true := bne_iff_ne.mpr c4
   obtain rfl := Option.some.inj H
   go_enter Try.func45, Try.ntmps45
   go_wp2_with (first | ((with_reducible refine gate_dst (N := 2) rfl ?_); refine box_event ?hg (N := 2) ?hd (cs := #[.int .i64 a0_0, .int .i64 a0_1, .int .i64 a0_2, .slice A0_3 l0_3.length c0_3, .int .i64 a0_4, .int .i64 a0_5, .int .i64 a0_6, .int .i64 a0_7, .int .i64 a0_8, .int .i64 a0_9, .int .i64 a0_10, .string a0_11, .string a0_12]) (t := 32) ?hr ?_; (case hd => rfl); (case hg => rfl); (case hr => first | (go_simp; done) | (go_simp; rfl)); intro gb123 hg w47 hbox hb; have n0_ := Aside0.mk (below_step (by repeat (first | (with_reducible first | exact HB.out | apply below_alloc | apply pw_below_drewN | apply below_drew1) | exact HB.out)) hb); have n1_ := Aside0.mk (hbox); have n2_ := Aside0.mk ((by rw [hg]; exact (below_size (by repeat (first | (with_reducible first | exact HB.out | apply below_alloc | apply pw_below_drewN | apply below_drew1) | exact HB.out))) : w.heap.size ≤ gb123)); have n3_ := Aside0.mk ((by rw [hg]; exact (below_size (by repeat (first | (with_reducible first | exact HB.out | apply below_alloc | apply pw_below_drewN | apply below_drew1) | exact HB.out))) : w.heap.size ≤ gb123)); clear HB; have HB := n0_; have BK123 := n1_; have GW123 := n2_; have GE123 := n3_; clear n0_ n1_ n2_ n3_; clear hb hbox hg) | ((with_reducible refine gate_dst (N := 3) rfl ?_); refine box_event ?hg (N := 3) ?hd (cs := #[.int .i64 a1_0, .int .i64 a1_1, .int .i64 a1_2, .slice A1_3 l1_3.length c1_3, .int .i64 a1_4, .int .i64 a1_5, .int .i64 a1_6, .int .i64 a1_7, .int .i64 a1_8, .int .i64 a1_9, .int .i64 a1_10, .string a1_11, .string a1_12]) (t := 32) ?hr ?_; (case hd => rfl); (case hg => rfl); (case hr => first | (go_simp; done) | (go_simp; rfl)); intro gb124 hg w48 hbox hb; have n0_ := Aside0.mk (blk_below (g := gb123) (o := .cells #[.int .i64 a0_0, .int .i64 a0_1, .int .i64 a0_2, .slice A0_3 l0_3.length c0_3, .int .i64 a0_4, .int .i64 a0_5, .int .i64 a0_6, .int .i64 a0_7, .int .i64 a0_8, .int .i64 a0_9, .int .i64 a0_10, .string a0_11, .string a0_12] 32 (0, 0)) (by (with_reducible repeat (first | refine blk_drewN ?_ _ | refine blk_drew ?_ | refine blk_alloc ?_ _)); exact BK123.out) hb); have n1_ := Aside0.mk (below_step (by repeat (first | (with_reducible first | exact HB.out | apply below_alloc | apply pw_below_drewN | apply below_drew1 | refine below_set ?_ GE123.out) | exact HB.out)) hb); have n2_ := Aside0.mk (hbox); have n3_ := Aside0.mk ((by rw [hg]; exact (below_size (by repeat (first | (with_reducible first | exact HB.out | apply below_alloc | apply pw_below_drewN | apply below_drew1 | refine below_set ?_ GE123.out) | exact HB.out))) : w.heap.size ≤ gb124)); have n4_ := Aside0.mk ((by rw [hg]; exact (below_size (by repeat (first | (with_reducible first | exact HB.out | apply below_alloc | apply pw_below_drewN | apply below_drew1 | refine below_set ?_ GE123.out) | exact HB.out))) : w.heap.size ≤ gb124)); have n5_ := Aside0.mk ((by rw [hg]; exact Nat.ne_of_lt (blk_lt (g := gb123) (o := .cells #[.int .i64 a0_0, .int .i64 a0_1, .int .i64 a0_2, .slice A0_3 l0_3.length c0_3, .int .i64 a0_4, .int .i64 a0_5, .int .i64 a0_6, .int .i64 a0_7, .int .i64 a0_8, .int .i64 a0_9, .int .i64 a0_10, .string a0_11, .string a0_12] 32 (0, 0)) (by (with_reducible repeat (first | refine blk_drewN ?_ _ | refine blk_drew ?_ | refine blk_alloc ?_ _)); exact BK123.out)) : gb123 ≠ gb124)); have n6_ := Aside0.mk ((by rw [hg]; exact Nat.ne_of_gt (blk_lt (g := gb123) (o := .cells #[.int .i64 a0_0, .int .i64 a0_1, .int .i64 a0_2, .slice A0_3 l0_3.length c0_3, .int .i64 a0_4, .int .i64 a0_5, .int .i64 a0_6, .int .i64 a0_7, .int .i64 a0_8, .int .i64 a0_9, .int .i64 a0_10, .string a0_11, .string a0_12] 32 (0, 0)) (by (with_reducible repeat (first | refine blk_drewN ?_ _ | refine blk_drew ?_ | refine blk_alloc ?_ _)); exact BK123.out)) : gb124 ≠ gb123)); clear BK123; clear HB; have BK123 := n0_; have HB := n1_; have BK124 := n2_; have GW124 := n3_; have GE124 := n4_; have NB123_124 := n5_; have NB124_123 := n6_; clear n0_ n1_ n2_ n3_ n4_ n5_ n6_; clear hb hbox hg; have hnb49 := NB123_124.out; have hnc49 := NB124_123.out; obtain ⟨hcz50_0, hcz50_1, hcz50_2, hcz50_3, hcz50_4, hcz50_5, hcz50_6, hcz50_7, hcz50_8, hcz50_9, hcz50_10, hcz50_11, hcz50_12⟩ := cells13 BK123.out; obtain ⟨hfz50_0, hfz50_1, hfz50_2, hfz50_3, hfz50_4, hfz50_5, hfz50_6, hfz50_7, hfz50_8, hfz50_9, hfz50_10, hfz50_11, hfz50_12⟩ := froz13 BK123.out; obtain ⟨hcz51_0, hcz51_1, hcz51_2, hcz51_3, hcz51_4, hcz51_5, hcz51_6, hcz51_7, hcz51_8, hcz51_9, hcz51_10, hcz51_11, hcz51_12⟩ := cells13 BK124.out; obtain ⟨hfz51_0, hfz51_1, hfz51_2, hfz51_3, hfz51_4, hfz51_5, hfz51_6, hfz51_7, hfz51_8, hfz51_9, hfz51_10, hfz51_11, hfz51_12⟩ := froz13 BK124.out))
   go_ret
   exact ⟨by first | rfl | (simp [errW_none, errW_some] <;> rfl) | (simp [*, errW_none, errW_some] <;> rfl), by repeat (first | (with_reducible first | exact HB.out | apply below_alloc | apply pw_below_drewN | apply below_drew1 | refine below_set ?_ GE123.out | refine below_set ?_ GE124.out) | exact HB.out)⟩
 ·rw [if_neg c3] at H
  have c3b0 : (a0_0 == a1_0 && (a0_1 == a1_1)) = false := by simpa using c3
  (try (have c3b1 : decide (a0_0 = a1_0 && (a0_1 == a1_1)) = false := by simpa using c3))
  (try (have c3b2 : (a0_0 == a1_0 && (a0_1 == a1_1)) = false := by simpa using c3))
  (try (have c3b3 : ¬ (a0_0 = a1_0 && (a0_1 == a1_1)) := by simpa using c3))
  clear c3
  obtain rfl := Option.some.inj H
  go_enter Try.func45, Try.ntmps45
  go_wp2_with (first | ((with_reducible refine gate_dst (N := 2) rfl ?_); refine box_event ?hg (N := 2) ?hd (cs := #[.int .i64 a0_0, .int .i64 a0_1, .int .i64 a0_2, .slice A0_3 l0_3.length c0_3, .int .i64 a0_4, .int .i64 a0_5, .int .i64 a0_6, .int .i64 a0_7, .int .i64 a0_8, .int .i64 a0_9, .int .i64 a0_10, .string a0_11, .string a0_12]) (t := 32) ?hr ?_; (case hd => rfl); (case hg => rfl); (case hr => first | (go_simp; done) | (go_simp; rfl)); intro gb123 hg w52 hbox hb; have n0_ := Aside0.mk (below_step (by repeat (first | (with_reducible first | exact HB.out | apply below_alloc | apply pw_below_drewN | apply below_drew1) | exact HB.out)) hb); have n1_ := Aside0.mk (hbox); have n2_ := Aside0.mk ((by rw [hg]; exact (below_size (by repeat (first | (with_reducible first | exact HB.out | apply below_alloc | apply pw_below_drewN | apply below_drew1) | exact HB.out))) : w.heap.size ≤ gb123)); have n3_ := Aside0.mk ((by rw [hg]; exact (below_size (by repeat (first | (with_reducible first | exact HB.out | apply below_alloc | apply pw_below_drewN | apply below_drew1) | exact HB.out))) : w.heap.size ≤ gb123)); clear HB; have HB := n0_; have BK123 := n1_; have GW123 := n2_; have GE123 := n3_; clear n0_ n1_ n2_ n3_; clear hb hbox hg) | ((with_reducible refine gate_dst (N := 3) rfl ?_); refine box_event ?hg (N := 3) ?hd (cs := #[.int .i64 a1_0, .int .i64 a1_1, .int .i64 a1_2, .slice A1_3 l1_3.length c1_3, .int .i64 a1_4, .int .i64 a1_5, .int .i64 a1_6, .int .i64 a1_7, .int .i64 a1_8, .int .i64 a1_9, .int .i64 a1_10, .string a1_11, .string a1_12]) (t := 32) ?hr ?_; (case hd => rfl); (case hg => rfl); (case hr => first | (go_simp; done) | (go_simp; rfl)); intro gb124 hg w53 hbox hb; have n0_ := Aside0.mk (blk_below (g := gb123) (o := .cells #[.int .i64 a0_0, .int .i64 a0_1, .int .i64 a0_2, .slice A0_3 l0_3.length c0_3, .int .i64 a0_4, .int .i64 a0_5, .int .i64 a0_6, .int .i64 a0_7, .int .i64 a0_8, .int .i64 a0_9, .int .i64 a0_10, .string a0_11, .string a0_12] 32 (0, 0)) (by (with_reducible repeat (first | refine blk_drewN ?_ _ | refine blk_drew ?_ | refine blk_alloc ?_ _)); exact BK123.out) hb); have n1_ := Aside0.mk (below_step (by repeat (first | (with_reducible first | exact HB.out | apply below_alloc | apply pw_below_drewN | apply below_drew1 | refine below_set ?_ GE123.out) | exact HB.out)) hb); have n2_ := Aside0.mk (hbox); have n3_ := Aside0.mk ((by rw [hg]; exact (below_size (by repeat (first | (with_reducible first | exact HB.out | apply below_alloc | apply pw_below_drewN | apply below_drew1 | refine below_set ?_ GE123.out) | exact HB.out))) : w.heap.size ≤ gb124)); have n4_ := Aside0.mk ((by rw [hg]; exact (below_size (by repeat (first | (with_reducible first | exact HB.out | apply below_alloc | apply pw_below_drewN | apply below_drew1 | refine below_set ?_ GE123.out) | exact HB.out))) : w.heap.size ≤ gb124)); have n5_ := Aside0.mk ((by rw [hg]; exact Nat.ne_of_lt (blk_lt (g := gb123) (o := .cells #[.int .i64 a0_0, .int .i64 a0_1, .int .i64 a0_2, .slice A0_3 l0_3.length c0_3, .int .i64 a0_4, .int .i64 a0_5, .int .i64 a0_6, .int .i64 a0_7, .int .i64 a0_8, .int .i64 a0_9, .int .i64 a0_10, .string a0_11, .string a0_12] 32 (0, 0)) (by (with_reducible repeat (first | refine blk_drewN ?_ _ | refine blk_drew ?_ | refine blk_alloc ?_ _)); exact BK123.out)) : gb123 ≠ gb124)); have n6_ := Aside0.mk ((by rw [hg]; exact Nat.ne_of_gt (blk_lt (g := gb123) (o := .cells #[.int .i64 a0_0, .int .i64 a0_1, .int .i64 a0_2, .slice A0_3 l0_3.length c0_3, .int .i64 a0_4, .int .i64 a0_5, .int .i64 a0_6, .int .i64 a0_7, .int .i64 a0_8, .int .i64 a0_9, .int .i64 a0_10, .string a0_11, .string a0_12] 32 (0, 0)) (by (with_reducible repeat (first | refine blk_drewN ?_ _ | refine blk_drew ?_ | refine blk_alloc ?_ _)); exact BK123.out)) : gb124 ≠ gb123)); clear BK123; clear HB; have BK123 := n0_; have HB := n1_; have BK124 := n2_; have GW124 := n3_; have GE124 := n4_; have NB123_124 := n5_; have NB124_123 := n6_; clear n0_ n1_ n2_ n3_ n4_ n5_ n6_; clear hb hbox hg; have hnb54 := NB123_124.out; have hnc54 := NB124_123.out; obtain ⟨hcz55_0, hcz55_1, hcz55_2, hcz55_3, hcz55_4, hcz55_5, hcz55_6, hcz55_7, hcz55_8, hcz55_9, hcz55_10, hcz55_11, hcz55_12⟩ := cells13 BK123.out; obtain ⟨hfz55_0, hfz55_1, hfz55_2, hfz55_3, hfz55_4, hfz55_5, hfz55_6, hfz55_7, hfz55_8, hfz55_9, hfz55_10, hfz55_11, hfz55_12⟩ := froz13 BK123.out; obtain ⟨hcz56_0, hcz56_1, hcz56_2, hcz56_3, hcz56_4, hcz56_5, hcz56_6, hcz56_7, hcz56_8, hcz56_9, hcz56_10, hcz56_11, hcz56_12⟩ := cells13 BK124.out; obtain ⟨hfz56_0, hfz56_1, hfz56_2, hfz56_3, hfz56_4, hfz56_5, hfz56_6, hfz56_7, hfz56_8, hfz56_9, hfz56_10, hfz56_11, hfz56_12⟩ := froz13 BK124.out))
  go_ret
  exact ⟨by first | rfl | (simp [errW_none, errW_some] <;> rfl) | (simp [*, errW_none, errW_some] <;> rfl), by repeat (first | (with_reducible first | exact HB.out | apply below_alloc | apply pw_below_drewN | apply below_drew1 | refine below_set ?_ GE123.out | refine below_set ?_ GE124.out) | exact HB.out)⟩
end Go.Proofs.Ytnopjjilpgekfaa.PCa
namespace Go.Proofs.Ytnopjjilpgekfaa.PCa
open Go.RowKit Go.Proofs.YtnopjjilpgekfaaW.PrintWords Go.Proofs.YtnopjjilpgekfaaW.PrintLast Go.Proofs.YtnopjjilpgekfaaW.PrintMore
attribute [local go_sem] max2_int min2_int max_two min_two max_three min_three max_four min_four   -- for this text's walks alone
set_option linter.unusedVariables false
set_option linter.unusedSimpArgs false
def topiaryref05_SameAll.l0 : Nat → List (S32) → List (S32) → Int → Option (Bool)
 | 0, _, _, _ => none
 | k + 1, x0, x1, x5 => if x5 < (x0.length : Int) then (if 0 ≤ x5 then (if x5 < (x1.length : Int) then ((topiaryref05_Same.f k ((rd_T32 x0 x5).f0.f0) ((rd_T32 x0 x5).f0.f1) ((rd_T32 x0 x5).f1) ((rd_T32 x0 x5).f2) ((rd_T32 x0 x5).f3) ((rd_T32 x0 x5).f4.f0) ((rd_T32 x0 x5).f4.f1) ((rd_T32 x0 x5).f5.f0) ((rd_T32 x0 x5).f5.f1) ((rd_T32 x0 x5).f6.f0) ((rd_T32 x0 x5).f6.f1) ((rd_T32 x0 x5).f7) ((rd_T32 x0 x5).f8) ((rd_T32 x1 x5).f0.f0) ((rd_T32 x1 x5).f0.f1) ((rd_T32 x1 x5).f1) ((rd_T32 x1 x5).f2) ((rd_T32 x1 x5).f3) ((rd_T32 x1 x5).f4.f0) ((rd_T32 x1 x5).f4.f1) ((rd_T32 x1 x5).f5.f0) ((rd_T32 x1 x5).f5.f1) ((rd_T32 x1 x5).f6.f0) ((rd_T32 x1 x5).f6.f1) ((rd_T32 x1 x5).f7) ((rd_T32 x1 x5).f8)).bind fun t408 => (if t408 = true then (topiaryref05_SameAll.l0 k x0 x1 (wrap64 (x5 + 1))) else (some false))) else (none)) else (none)) else (some true)
def topiaryref05_SameAll.f (k : Nat) (l0 : List (S32)) (l1 : List (S32)) : Option (Bool) := if (l0.length : Int) = (l1.length : Int) then (topiaryref05_SameAll.l0 k l0 l1 0) else (some false)
theorem topiaryref05_SameAll.mono_l : ∀ k, (∀ y0 y1 y2, LeO (topiaryref05_SameAll.l0 k y0 y1 y2) (topiaryref05_SameAll.l0 (k + 1) y0 y1 y2))
 | 0 => fun _ _ _ r h => by simp [topiaryref05_SameAll.l0] at h
 | k + 1 => by
  have ih0 := topiaryref05_SameAll.mono_l k
  ·intro y0 y1 y2
   unfold topiaryref05_SameAll.l0
   repeat' first
   | (with_reducible exact ih0 _ _ _)
   | (with_reducible exact topiaryref05_Same.mono _ _ _ _ _ _ _ _ _ _ _ _ _ _ _ _ _ _ _ _ _ _ _ _ _ _ _)
   | (with_reducible exact LeO.refl _)
   | (with_reducible exact LeO.none _)
   | (with_reducible refine LeO.ite ?_ ?_)
   | (with_reducible refine LeO.bind ?_ (fun _ => ?_))
   | exact ih0 _ _ _
   | exact topiaryref05_Same.mono _ _ _ _ _ _ _ _ _ _ _ _ _ _ _ _ _ _ _ _ _ _ _ _ _ _ _
   | exact LeO.none _
   | refine LeO.ite ?_ ?_
   | refine LeO.bind ?_ (fun _ => ?_)
theorem topiaryref05_SameAll.mono : ∀ a0 a1 k, LeO (topiaryref05_SameAll.f k a0 a1) (topiaryref05_SameAll.f (k + 1) a0 a1) := by
 intro a0 a1 k
 have ih0 := topiaryref05_SameAll.mono_l k
 unfold topiaryref05_SameAll.f
 repeat' first
   | (with_reducible exact ih0 _ _ _)
   | (with_reducible exact topiaryref05_Same.mono _ _ _ _ _ _ _ _ _ _ _ _ _ _ _ _ _ _ _ _ _ _ _ _ _ _ _)
   | (with_reducible exact LeO.refl _)
   | (with_reducible exact LeO.none _)
   | (with_reducible refine LeO.ite ?_ ?_)
   | (with_reducible refine LeO.bind ?_ (fun _ => ?_))
   | exact ih0 _ _ _
   | exact topiaryref05_Same.mono _ _ _ _ _ _ _ _ _ _ _ _ _ _ _ _ _ _ _ _ _ _ _ _ _ _ _
   | exact LeO.none _
   | refine LeO.ite ?_ ?_
   | refine LeO.bind ?_ (fun _ => ?_)
def topiaryref05_SameAll.T6 : Bool × List (List Nat × List Nat) := (true, [([], []), ([], []), ([0, 1], [0, 1]), ([2], [2]), ([], []), ([], []), ([4, 5], [4, 5]), ([6], [6]), ([3, 7], [3, 7]), ([8], [8])])
def topiaryref05_SameAll.B6 : List Nat := [0, 0, 3, 7, 0, 0, 48, 112, 255, 511]
theorem topiaryref05_SameAll.tab6 : rtab .any (opsOf Try.f15 6) = topiaryref05_SameAll.T6 := by kernel_rfl
theorem topiaryref05_SameAll.bits6 : waitsOk topiaryref05_SameAll.T6.2 topiaryref05_SameAll.B6 = true := by kernel_rfl
set_option maxHeartbeats 8000000 in
set_option maxRecDepth 100000 in
theorem topiaryref05_SameAll.calls (k : Nat) (A0 : Option Addr) (c0 : Nat) (l0 : List (S32)) (A1 : Option Addr) (c1 : Nat) (l1 : List (S32)) (r : Bool) (w : World) (hr0 : Kd.C k32 w A0 l0.length l0) (hc0 : l0.length ≤ c0) (hr1 : Kd.C k32 w A1 l1.length l1) (hc1 : l1.length ≤ c1) (h : topiaryref05_SameAll.f k l0 l1 = some r) :
  Calls Try.prog 15 #[.slice A0 l0.length c0, .slice A1 l1.length c1] w fun e w' => e = .returned (.bool r) ∧ Below w.heap.size w w' := by
 have hu32 := Try.underlying32
 have HR0 := Aside0.mk hr0
 have HC0 := Aside0.mk hc0
 clear hr0 hc0
 have HR1 := Aside0.mk hr1
 have HC1 := Aside0.mk hc1
 clear hr1 hc1
 have HB := Aside0.mk (Below.refl w.heap.size w)
 have H : (if (l0.length : Int) = (l1.length : Int) then (topiaryref05_SameAll.l0 k l0 l1 0) else (some false)) = some r := h
 clear h
 by_cases c3 : (l0.length : Int) = (l1.length : Int)
 ·rw [if_pos c3] at H
  have c3b0 : ((l0.length : Int) == (l1.length : Int)) = true := beq_iff_eq.mpr c3
  have c3b1 : ((l0.length : Int) != (l1.length : Int)) = false := bne_eq_false_iff_eq.mpr c3
  have c3b2 : (l0.length == l1.length) = true := by first | simpa using c3 | (simp at c3 ⊢; omega)
  clear c3
  have H' := Aside0.mk H
  clear H
  go_enter Try.func15, Try.ntmps15
  go_wp2
  go_loopg [5] k (fun kq v5 w' => ∃ (x5_1 : Int), v5 = .int .i64 x5_1 ∧ Aside0 (topiaryref05_SameAll.l0 kq l0 l1 x5_1 = some r) ∧ Aside0 (kq ≤ k) ∧ Aside0 (Below w.heap.size w w'))
  case atStart => exact ⟨(0), (by first | rfl | (simp; done) | (simp [*]; done)), H', ⟨Nat.le_refl _⟩, ⟨by repeat (first | (with_reducible first | exact HB.out | apply below_alloc | apply pw_below_drewN | apply below_drew1) | exact HB.out)⟩⟩
  case round =>
   clear H'
   (try clear c1); (try clear p2); (try clear c3); (try clear c3b0); (try clear c3b1); (try clear c3b2)
   obtain ⟨x5_1, rfl, HA, HK1, HB⟩ := hrel
   cases gk with
   | zero => exact absurd HA.out (by simp [topiaryref05_SameAll.l0])
   | succ k1 =>
    have H := HA.out
    clear HA
    simp only [topiaryref05_SameAll.l0] at H
    by_cases c4 : x5_1 < (l0.length : Int)
    ·rw [if_pos c4] at H
     have c4b0 : decide (x5_1 < (l0.length : Int)) = true := decide_eq_true c4
     clear c4
     by_cases c5 : 0 ≤ x5_1
     ·rw [if_pos c5] at H
      have c5b0 : decide (0 ≤ x5_1) = true := decide_eq_true c5
      clear c5
      by_cases c6 : x5_1 < (l1.length : Int)
      ·rw [if_pos c6] at H
       have c6b0 : decide (x5_1 < (l1.length : Int)) = true := decide_eq_true c6
       clear c6
       replace H := Option.bind_eq_some_iff.mp H
       obtain ⟨t408, A70, H⟩ := H
       replace H : (if t408 = true then (topiaryref05_SameAll.l0 k1 l0 l1 (wrap64 (x5_1 + 1))) else (some false)) = some r := H
       have A7 := Aside0.mk A70
       clear A70
       by_cases c8 : t408 = true
       ·subst c8
        have H1 : (topiaryref05_SameAll.l0 k1 l0 l1 (wrap64 (x5_1 + 1))) = some r := by rw [if_pos rfl] at H; exact H
        clear H
        have H := H1
        clear H1
        have H' := Aside0.mk H
        clear H
        try go_wp2
        have n0_ := Aside0.mk (below_drew1 HB.out)
        clear HB
        have HB := n0_
        clear n0_
        have p406 : 0 ≤ (x5_1 : Int) := of_decide_eq_true (by first | (with_reducible assumption) | assumption)
        have q406 : x5_1 < (l0.length : Int) := of_decide_eq_true (by first | (with_reducible assumption) | assumption)
        obtain ⟨ad406, A406_3, c406_3, e406, hx406_0, hx406_1, hx406_2, hx406_3, hx406_4, hx406_5, hx406_6, hx406_7, hx406_8, hx406_9, hx406_10, hx406_11, hx406_12, hl406_3, hi406_3⟩ := at_T32 HR0.out x5_1 p406 q406
        have hw406_12 := hx406_12
        have hw406_11 := hx406_11
        have hw406_10 := hx406_10
        have hw406_9 := hx406_9
        have hw406_8 := hx406_8
        have hw406_7 := hx406_7
        have hw406_6 := hx406_6
        have hw406_5 := hx406_5
        have hw406_4 := hx406_4
        have hw406_3 := hx406_3
        have hw406_2 := hx406_2
        have hw406_1 := hx406_1
        have hw406_0 := hx406_0
        cases e406
        replace hx406_0 := (HB.out.cell (World.block_lt_of_cell? w _ hx406_0)).trans hx406_0
        replace hx406_1 := (HB.out.cell (World.block_lt_of_cell? w _ hx406_1)).trans hx406_1
        replace hx406_2 := (HB.out.cell (World.block_lt_of_cell? w _ hx406_2)).trans hx406_2
        replace hx406_3 := (HB.out.cell (World.block_lt_of_cell? w _ hx406_3)).trans hx406_3
        replace hx406_4 := (HB.out.cell (World.block_lt_of_cell? w _ hx406_4)).trans hx406_4
        replace hx406_5 := (HB.out.cell (World.block_lt_of_cell? w _ hx406_5)).trans hx406_5
        replace hx406_6 := (HB.out.cell (World.block_lt_of_cell? w _ hx406_6)).trans hx406_6
        replace hx406_7 := (HB.out.cell (World.block_lt_of_cell? w _ hx406_7)).trans hx406_7
        replace hx406_8 := (HB.out.cell (World.block_lt_of_cell? w _ hx406_8)).trans hx406_8
        replace hx406_9 := (HB.out.cell (World.block_lt_of_cell? w _ hx406_9)).trans hx406_9
        replace hx406_10 := (HB.out.cell (World.block_lt_of_cell? w _ hx406_10)).trans hx406_10
        replace hx406_11 := (HB.out.cell (World.block_lt_of_cell? w _ hx406_11)).trans hx406_11
        replace hx406_12 := (HB.out.cell (World.block_lt_of_cell? w _ hx406_12)).trans hx406_12
        have HR406_3 := Aside0.mk hi406_3
        have HC406_3 := Aside0.mk hl406_3
        clear hi406_3 hl406_3
        replace p406 := eq_true p406
        replace q406 := eq_true q406
        have p407 : 0 ≤ (x5_1 : Int) := of_decide_eq_true (by first | (with_reducible assumption) | assumption)
        have q407 : x5_1 < (l1.length : Int) := of_decide_eq_true (by first | (with_reducible assumption) | assumption)
        obtain ⟨ad407, A407_3, c407_3, e407, hx407_0, hx407_1, hx407_2, hx407_3, hx407_4, hx407_5, hx407_6, hx407_7, hx407_8, hx407_9, hx407_10, hx407_11, hx407_12, hl407_3, hi407_3⟩ := at_T32 HR1.out x5_1 p407 q407
        have hw407_12 := hx407_12
        have hw407_11 := hx407_11
        have hw407_10 := hx407_10
        have hw407_9 := hx407_9
        have hw407_8 := hx407_8
        have hw407_7 := hx407_7
        have hw407_6 := hx407_6
        have hw407_5 := hx407_5
        have hw407_4 := hx407_4
        have hw407_3 := hx407_3
        have hw407_2 := hx407_2
        have hw407_1 := hx407_1
        have hw407_0 := hx407_0
        cases e407
        replace hx407_0 := (HB.out.cell (World.block_lt_of_cell? w _ hx407_0)).trans hx407_0
        replace hx407_1 := (HB.out.cell (World.block_lt_of_cell? w _ hx407_1)).trans hx407_1
        replace hx407_2 := (HB.out.cell (World.block_lt_of_cell? w _ hx407_2)).trans hx407_2
        replace hx407_3 := (HB.out.cell (World.block_lt_of_cell? w _ hx407_3)).trans hx407_3
        replace hx407_4 := (HB.out.cell (World.block_lt_of_cell? w _ hx407_4)).trans hx407_4
        replace hx407_5 := (HB.out.cell (World.block_lt_of_cell? w _ hx407_5)).trans hx407_5
        replace hx407_6 := (HB.out.cell (World.block_lt_of_cell? w _ hx407_6)).trans hx407_6
        replace hx407_7 := (HB.out.cell (World.block_lt_of_cell? w _ hx407_7)).trans hx407_7
        replace hx407_8 := (HB.out.cell (World.block_lt_of_cell? w _ hx407_8)).trans hx407_8
        replace hx407_9 := (HB.out.cell (World.block_lt_of_cell? w _ hx407_9)).trans hx407_9
        replace hx407_10 := (HB.out.cell (World.block_lt_of_cell? w _ hx407_10)).trans hx407_10
        replace hx407_11 := (HB.out.cell (World.block_lt_of_cell? w _ hx407_11)).trans hx407_11
        replace hx407_12 := (HB.out.cell (World.block_lt_of_cell? w _ hx407_12)).trans hx407_12
        have HR407_3 := Aside0.mk hi407_3
        have HC407_3 := Aside0.mk hl407_3
        clear hi407_3 hl407_3
        replace p407 := eq_true p407
        replace q407 := eq_true q407
        refine start_ (n := 10) (S := fun w' => w'.cell? (ad406.add ((x5_1).toNat * 13)) = some (.int .i64 ((rd_T32 l0 x5_1).f0.f0)) ∧ w'.cell? ⟨(ad406.add ((x5_1).toNat * 13)).block, (ad406.add ((x5_1).toNat * 13)).off + 1, none⟩ = some (.int .i64 ((rd_T32 l0 x5_1).f0.f1)) ∧ w'.cell? ⟨(ad406.add ((x5_1).toNat * 13)).block, (ad406.add ((x5_1).toNat * 13)).off + 2, none⟩ = some (.int .i64 ((rd_T32 l0 x5_1).f1)) ∧ w'.cell? ⟨(ad406.add ((x5_1).toNat * 13)).block, (ad406.add ((x5_1).toNat * 13)).off + 3, none⟩ = some (.slice A406_3 ((rd_T32 l0 x5_1).f2).length c406_3) ∧ w'.cell? ⟨(ad406.add ((x5_1).toNat * 13)).block, (ad406.add ((x5_1).toNat * 13)).off + 4, none⟩ = some (.int .i64 ((rd_T32 l0 x5_1).f3)) ∧ w'.cell? ⟨(ad406.add ((x5_1).toNat * 13)).block, (ad406.add ((x5_1).toNat * 13)).off + 5, none⟩ = some (.int .i64 ((rd_T32 l0 x5_1).f4.f0)) ∧ w'.cell? ⟨(ad406.add ((x5_1).toNat * 13)).block, (ad406.add ((x5_1).toNat * 13)).off + 6, none⟩ = some (.int .i64 ((rd_T32 l0 x5_1).f4.f1)) ∧ w'.cell? ⟨(ad406.add ((x5_1).toNat * 13)).block, (ad406.add ((x5_1).toNat * 13)).off + 7, none⟩ = some (.int .i64 ((rd_T32 l0 x5_1).f5.f0)) ∧ w'.cell? ⟨(ad406.add ((x5_1).toNat * 13)).block, (ad406.add ((x5_1).toNat * 13)).off + 8, none⟩ = some (.int .i64 ((rd_T32 l0 x5_1).f5.f1)) ∧ w'.cell? ⟨(ad406.add ((x5_1).toNat * 13)).block, (ad406.add ((x5_1).toNat * 13)).off + 9, none⟩ = some (.int .i64 ((rd_T32 l0 x5_1).f6.f0)) ∧ w'.cell? ⟨(ad406.add ((x5_1).toNat * 13)).block, (ad406.add ((x5_1).toNat * 13)).off + 10, none⟩ = some (.int .i64 ((rd_T32 l0 x5_1).f6.f1)) ∧ w'.cell? ⟨(ad406.add ((x5_1).toNat * 13)).block, (ad406.add ((x5_1).toNat * 13)).off + 11, none⟩ = some (.string ((rd_T32 l0 x5_1).f7)) ∧ w'.cell? ⟨(ad406.add ((x5_1).toNat * 13)).block, (ad406.add ((x5_1).toNat * 13)).off + 12, none⟩ = some (.string ((rd_T32 l0 x5_1).f8)) ∧ w'.cell? (ad407.add ((x5_1).toNat * 13)) = some (.int .i64 ((rd_T32 l1 x5_1).f0.f0)) ∧ w'.cell? ⟨(ad407.add ((x5_1).toNat * 13)).block, (ad407.add ((x5_1).toNat * 13)).off + 1, none⟩ = some (.int .i64 ((rd_T32 l1 x5_1).f0.f1)) ∧ w'.cell? ⟨(ad407.add ((x5_1).toNat * 13)).block, (ad407.add ((x5_1).toNat * 13)).off + 2, none⟩ = some (.int .i64 ((rd_T32 l1 x5_1).f1)) ∧ w'.cell? ⟨(ad407.add ((x5_1).toNat * 13)).block, (ad407.add ((x5_1).toNat * 13)).off + 3, none⟩ = some (.slice A407_3 ((rd_T32 l1 x5_1).f2).length c407_3) ∧ w'.cell? ⟨(ad407.add ((x5_1).toNat * 13)).block, (ad407.add ((x5_1).toNat * 13)).off + 4, none⟩ = some (.int .i64 ((rd_T32 l1 x5_1).f3)) ∧ w'.cell? ⟨(ad407.add ((x5_1).toNat * 13)).block, (ad407.add ((x5_1).toNat * 13)).off + 5, none⟩ = some (.int .i64 ((rd_T32 l1 x5_1).f4.f0)) ∧ w'.cell? ⟨(ad407.add ((x5_1).toNat * 13)).block, (ad407.add ((x5_1).toNat * 13)).off + 6, none⟩ = some (.int .i64 ((rd_T32 l1 x5_1).f4.f1)) ∧ w'.cell? ⟨(ad407.add ((x5_1).toNat * 13)).block, (ad407.add ((x5_1).toNat * 13)).off + 7, none⟩ = some (.int .i64 ((rd_T32 l1 x5_1).f5.f0)) ∧ w'.cell? ⟨(ad407.add ((x5_1).toNat * 13)).block, (ad407.add ((x5_1).toNat * 13)).off + 8, none⟩ = some (.int .i64 ((rd_T32 l1 x5_1).f5.f1)) ∧ w'.cell? ⟨(ad407.add ((x5_1).toNat * 13)).block, (ad407.add ((x5_1).toNat * 13)).off + 9, none⟩ = some (.int .i64 ((rd_T32 l1 x5_1).f6.f0)) ∧ w'.cell? ⟨(ad407.add ((x5_1).toNat * 13)).block, (ad407.add ((x5_1).toNat * 13)).off + 10, none⟩ = some (.int .i64 ((rd_T32 l1 x5_1).f6.f1)) ∧ w'.cell? ⟨(ad407.add ((x5_1).toNat * 13)).block, (ad407.add ((x5_1).toNat * 13)).off + 11, none⟩ = some (.string ((rd_T32 l1 x5_1).f7)) ∧ w'.cell? ⟨(ad407.add ((x5_1).toNat * 13)).block, (ad407.add ((x5_1).toNat * 13)).off + 12, none⟩ = some (.string ((rd_T32 l1 x5_1).f8))) (ds := []) #[false, false, false, false, false, false, false, false, false, false] (by kernel_rfl) rfl rfl ⟨((HB.out.cell (World.block_lt_of_cell? w _ hw406_0)).trans hw406_0), ((HB.out.cell (World.block_lt_of_cell? w _ hw406_1)).trans hw406_1), ((HB.out.cell (World.block_lt_of_cell? w _ hw406_2)).trans hw406_2), ((HB.out.cell (World.block_lt_of_cell? w _ hw406_3)).trans hw406_3), ((HB.out.cell (World.block_lt_of_cell? w _ hw406_4)).trans hw406_4), ((HB.out.cell (World.block_lt_of_cell? w _ hw406_5)).trans hw406_5), ((HB.out.cell (World.block_lt_of_cell? w _ hw406_6)).trans hw406_6), ((HB.out.cell (World.block_lt_of_cell? w _ hw406_7)).trans hw406_7), ((HB.out.cell (World.block_lt_of_cell? w _ hw406_8)).trans hw406_8), ((HB.out.cell (World.block_lt_of_cell? w _ hw406_9)).trans hw406_9), ((HB.out.cell (World.block_lt_of_cell? w _ hw406_10)).trans hw406_10), ((HB.out.cell (World.block_lt_of_cell? w _ hw406_11)).trans hw406_11), ((HB.out.cell (World.block_lt_of_cell? w _ hw406_12)).trans hw406_12), ((HB.out.cell (World.block_lt_of_cell? w _ hw407_0)).trans hw407_0), ((HB.out.cell (World.block_lt_of_cell? w _ hw407_1)).trans hw407_1), ((HB.out.cell (World.block_lt_of_cell? w _ hw407_2)).trans hw407_2), ((HB.out.cell (World.block_lt_of_cell? w _ hw407_3)).trans hw407_3), ((HB.out.cell (World.block_lt_of_cell? w _ hw407_4)).trans hw407_4), ((HB.out.cell (World.block_lt_of_cell? w _ hw407_5)).trans hw407_5), ((HB.out.cell (World.block_lt_of_cell? w _ hw407_6)).trans hw407_6), ((HB.out.cell (World.block_lt_of_cell? w _ hw407_7)).trans hw407_7), ((HB.out.cell (World.block_lt_of_cell? w _ hw407_8)).trans hw407_8), ((HB.out.cell (World.block_lt_of_cell? w _ hw407_9)).trans hw407_9), ((HB.out.cell (World.block_lt_of_cell? w _ hw407_10)).trans hw407_10), ((HB.out.cell (World.block_lt_of_cell? w _ hw407_11)).trans hw407_11), ((HB.out.cell (World.block_lt_of_cell? w _ hw407_12)).trans hw407_12)⟩ (fun hHeld => ?_); refine with_tabW topiaryref05_SameAll.tab6 topiaryref05_SameAll.bits6 (fun HT_ HW_ => ?_)
        generalize wr.drew = w9 at HB HR406_3 HR407_3 hx406_0 hx406_1 hx406_10 hx406_11 hx406_12 hx406_2 hx406_3 hx406_4 hx406_5 hx406_6 hx406_7 hx406_8 hx406_9 hx407_0 hx407_1 hx407_10 hx407_11 hx407_12 hx407_2 hx407_3 hx407_4 hx407_5 hx407_6 hx407_7 hx407_8 hx407_9 hHeld ⊢
        refine pureS (i := 0) (N := some 17) #[true, false, false, false, false, false, false, false, false, false] HT_ ?_
        refine pureS (i := 1) (N := some 18) #[true, true, false, false, false, false, false, false, false, false] HT_ ?_
        refine pureS (i := 2) (N := some 19) #[true, true, true, false, false, false, false, false, false, false] HT_ ?_
        refine pureS (i := 4) (N := some 21) #[true, true, true, false, true, false, false, false, false, false] HT_ ?_
        refine pureS (i := 5) (N := some 22) #[true, true, true, false, true, true, false, false, false, false] HT_ ?_
        refine pureS (i := 6) (N := some 23) #[true, true, true, false, true, true, true, false, false, false] HT_ ?_
        refine take_ (i := 3) (N := some 20) (v := ?_) (a' := ?_) #[true, true, true, true, true, true, true, false, false, false] rfl rfl (take_ofW HT_.out HW_.out (by kernel_rfl)) (fun _ _ _ h => h) (Or.inl ⟨by rfl, ?_⟩) hHeld ?_ ?_
        rotate_left
        ·rintro w' ⟨s0, s1, s2, s3, s4, s5, s6, s7, s8, s9, s10, s11, s12, s13, s14, s15, s16, s17, s18, s19, s20, s21, s22, s23, s24, s25⟩
         go_simp
         with_reducible rfl
        rotate_left
        ·simp only [Act.put, List.setIfInBounds_toArray, List.set_cons_zero, List.set_cons_succ, i64_w, i32_w]
         rfl
        refine take_ (i := 7) (N := some 24) (v := ?_) (a' := ?_) #[true, true, true, true, true, true, true, true, false, false] rfl rfl (take_ofW HT_.out HW_.out (by kernel_rfl)) (fun _ _ _ h => h) (Or.inl ⟨by rfl, ?_⟩) hHeld ?_ ?_
        rotate_left
        ·rintro w' ⟨s0, s1, s2, s3, s4, s5, s6, s7, s8, s9, s10, s11, s12, s13, s14, s15, s16, s17, s18, s19, s20, s21, s22, s23, s24, s25⟩
         go_simp
         with_reducible rfl
        rotate_left
        ·simp only [Act.put, List.setIfInBounds_toArray, List.set_cons_zero, List.set_cons_succ, i64_w, i32_w]
         rfl
        refine one_ (i := 8) (N := some 25) #[true, true, true, true, true, true, true, true, true, false] rfl rfl (one_of HT_.out (by kernel_rfl)) (by decide) (fun K hK => ?_)
        refine goes_ Try.func45 (by kernel_rfl) rfl #[.agg #[.int .i64 ((rd_T32 l0 x5_1).f0.f0), .int .i64 ((rd_T32 l0 x5_1).f0.f1), .int .i64 ((rd_T32 l0 x5_1).f1), .slice A406_3 ((rd_T32 l0 x5_1).f2).length c406_3, .int .i64 ((rd_T32 l0 x5_1).f3), .int .i64 ((rd_T32 l0 x5_1).f4.f0), .int .i64 ((rd_T32 l0 x5_1).f4.f1), .int .i64 ((rd_T32 l0 x5_1).f5.f0), .int .i64 ((rd_T32 l0 x5_1).f5.f1), .int .i64 ((rd_T32 l0 x5_1).f6.f0), .int .i64 ((rd_T32 l0 x5_1).f6.f1), .string ((rd_T32 l0 x5_1).f7), .string ((rd_T32 l0 x5_1).f8)], .agg #[.int .i64 ((rd_T32 l1 x5_1).f0.f0), .int .i64 ((rd_T32 l1 x5_1).f0.f1), .int .i64 ((rd_T32 l1 x5_1).f1), .slice A407_3 ((rd_T32 l1 x5_1).f2).length c407_3, .int .i64 ((rd_T32 l1 x5_1).f3), .int .i64 ((rd_T32 l1 x5_1).f4.f0), .int .i64 ((rd_T32 l1 x5_1).f4.f1), .int .i64 ((rd_T32 l1 x5_1).f5.f0), .int .i64 ((rd_T32 l1 x5_1).f5.f1), .int .i64 ((rd_T32 l1 x5_1).f6.f0), .int .i64 ((rd_T32 l1 x5_1).f6.f1), .string ((rd_T32 l1 x5_1).f7), .string ((rd_T32 l1 x5_1).f8)]] (by rfl) rfl rfl (by (try simp only [List.map_toArray, List.map_cons, List.map_nil]); first | done | rfl | (simp only [List.length_drop, List.length_take]; rfl)) ?_
        with_reducible refine (topiaryref05_Same.calls k1 ((rd_T32 l0 x5_1).f0.f0) ((rd_T32 l0 x5_1).f0.f1) ((rd_T32 l0 x5_1).f1) _ _ ((rd_T32 l0 x5_1).f2) ((rd_T32 l0 x5_1).f3) ((rd_T32 l0 x5_1).f4.f0) ((rd_T32 l0 x5_1).f4.f1) ((rd_T32 l0 x5_1).f5.f0) ((rd_T32 l0 x5_1).f5.f1) ((rd_T32 l0 x5_1).f6.f0) ((rd_T32 l0 x5_1).f6.f1) ((rd_T32 l0 x5_1).f7) ((rd_T32 l0 x5_1).f8) ((rd_T32 l1 x5_1).f0.f0) ((rd_T32 l1 x5_1).f0.f1) ((rd_T32 l1 x5_1).f1) _ _ ((rd_T32 l1 x5_1).f2) ((rd_T32 l1 x5_1).f3) ((rd_T32 l1 x5_1).f4.f0) ((rd_T32 l1 x5_1).f4.f1) ((rd_T32 l1 x5_1).f5.f0) ((rd_T32 l1 x5_1).f5.f1) ((rd_T32 l1 x5_1).f6.f0) ((rd_T32 l1 x5_1).f6.f1) ((rd_T32 l1 x5_1).f7) ((rd_T32 l1 x5_1).f8) true _ ?side1 ?side2 ?side3 ?side4 A7.out).mono ?_
        (case side1 => repeat (first | exact (Kd.C_below HR406_3.out HB.out) | (with_reducible refine Kd.C_alloc ?_ _) | (with_reducible refine Kd.C_drewN ?_ _) | (with_reducible refine Kd.C_drew ?_)))
        (case side2 => exact HC406_3.out)
        (case side3 => repeat (first | exact (Kd.C_below HR407_3.out HB.out) | (with_reducible refine Kd.C_alloc ?_ _) | (with_reducible refine Kd.C_drewN ?_ _) | (with_reducible refine Kd.C_drew ?_)))
        (case side4 => exact HC407_3.out)
        rintro e w10 ⟨rfl, hb⟩
        refine ⟨_, rfl, ?_⟩
        have n0_ := Aside0.mk (below_step (by repeat (first | (with_reducible first | exact HB.out | apply below_alloc | apply pw_below_drewN | apply below_drew1) | exact HB.out)) hb)
        clear HB
        have HB := n0_
        clear n0_
        (try clear hb)
        (try clear hb2)
        (try clear hk)
        (try clear hi)
        refine hK.out _ _ ⟨((HB.out.cell (World.block_lt_of_cell? w _ hw406_0)).trans hw406_0), ((HB.out.cell (World.block_lt_of_cell? w _ hw406_1)).trans hw406_1), ((HB.out.cell (World.block_lt_of_cell? w _ hw406_2)).trans hw406_2), ((HB.out.cell (World.block_lt_of_cell? w _ hw406_3)).trans hw406_3), ((HB.out.cell (World.block_lt_of_cell? w _ hw406_4)).trans hw406_4), ((HB.out.cell (World.block_lt_of_cell? w _ hw406_5)).trans hw406_5), ((HB.out.cell (World.block_lt_of_cell? w _ hw406_6)).trans hw406_6), ((HB.out.cell (World.block_lt_of_cell? w _ hw406_7)).trans hw406_7), ((HB.out.cell (World.block_lt_of_cell? w _ hw406_8)).trans hw406_8), ((HB.out.cell (World.block_lt_of_cell? w _ hw406_9)).trans hw406_9), ((HB.out.cell (World.block_lt_of_cell? w _ hw406_10)).trans hw406_10), ((HB.out.cell (World.block_lt_of_cell? w _ hw406_11)).trans hw406_11), ((HB.out.cell (World.block_lt_of_cell? w _ hw406_12)).trans hw406_12), ((HB.out.cell (World.block_lt_of_cell? w _ hw407_0)).trans hw407_0), ((HB.out.cell (World.block_lt_of_cell? w _ hw407_1)).trans hw407_1), ((HB.out.cell (World.block_lt_of_cell? w _ hw407_2)).trans hw407_2), ((HB.out.cell (World.block_lt_of_cell? w _ hw407_3)).trans hw407_3), ((HB.out.cell (World.block_lt_of_cell? w _ hw407_4)).trans hw407_4), ((HB.out.cell (World.block_lt_of_cell? w _ hw407_5)).trans hw407_5), ((HB.out.cell (World.block_lt_of_cell? w _ hw407_6)).trans hw407_6), ((HB.out.cell (World.block_lt_of_cell? w _ hw407_7)).trans hw407_7), ((HB.out.cell (World.block_lt_of_cell? w _ hw407_8)).trans hw407_8), ((HB.out.cell (World.block_lt_of_cell? w _ hw407_9)).trans hw407_9), ((HB.out.cell (World.block_lt_of_cell? w _ hw407_10)).trans hw407_10), ((HB.out.cell (World.block_lt_of_cell? w _ hw407_11)).trans hw407_11), ((HB.out.cell (World.block_lt_of_cell? w _ hw407_12)).trans hw407_12)⟩ (fun hHeld => ?_)
        clear hK K
        refine norm_ (a' := ?_) ?_ ?_
        rotate_left
        ·show Act.put _ (some 25) _ = _
         simp only [Act.put, List.setIfInBounds_toArray, List.set_cons_zero, List.set_cons_succ, i64_w, i32_w]
         rfl
        refine pureS (i := 9) (N := some 26) #[true, true, true, true, true, true, true, true, true, true] HT_ ?_
        refine done_ (done_of HT_.out (by kernel_rfl)) ?_
        try go_wp2
        go_roundg k1
        case measure => have := HK1.out; omega
        case rel => exact ⟨(wrap64 (x5_1 + 1)), (by first | rfl | (simp; done) | (simp [*]; done)), H', ⟨by have := HK1.out; omega⟩, ⟨by repeat (first | (with_reducible first | exact HB.out | apply below_alloc | apply pw_below_drewN | apply below_drew1) | exact HB.out)⟩⟩
       ·replace c8 := Bool.eq_false_iff.mpr c8
        subst c8
        have H1 : (some false) = some r := by rw [if_neg (show ¬ (false = true) by decide)] at H; exact H
        clear H
        have H := H1
        clear H1
        obtain rfl := Option.some.inj H
        try go_wp2
        have n0_ := Aside0.mk (below_drew1 HB.out)
        clear HB
        have HB := n0_
        clear n0_
        have p406 : 0 ≤ (x5_1 : Int) := of_decide_eq_true (by first | (with_reducible assumption) | assumption)
        have q406 : x5_1 < (l0.length : Int) := of_decide_eq_true (by first | (with_reducible assumption) | assumption)
        obtain ⟨ad406, A406_3, c406_3, e406, hx406_0, hx406_1, hx406_2, hx406_3, hx406_4, hx406_5, hx406_6, hx406_7, hx406_8, hx406_9, hx406_10, hx406_11, hx406_12, hl406_3, hi406_3⟩ := at_T32 HR0.out x5_1 p406 q406
        have hw406_12 := hx406_12
        have hw406_11 := hx406_11
        have hw406_10 := hx406_10
        have hw406_9 := hx406_9
        have hw406_8 := hx406_8
        have hw406_7 := hx406_7
        have hw406_6 := hx406_6
        have hw406_5 := hx406_5
        have hw406_4 := hx406_4
        have hw406_3 := hx406_3
        have hw406_2 := hx406_2
        have hw406_1 := hx406_1
        have hw406_0 := hx406_0
        cases e406
        replace hx406_0 := (HB.out.cell (World.block_lt_of_cell? w _ hx406_0)).trans hx406_0
        replace hx406_1 := (HB.out.cell (World.block_lt_of_cell? w _ hx406_1)).trans hx406_1
        replace hx406_2 := (HB.out.cell (World.block_lt_of_cell? w _ hx406_2)).trans hx406_2
        replace hx406_3 := (HB.out.cell (World.block_lt_of_cell? w _ hx406_3)).trans hx406_3
        replace hx406_4 := (HB.out.cell (World.block_lt_of_cell? w _ hx406_4)).trans hx406_4
        replace hx406_5 := (HB.out.cell (World.block_lt_of_cell? w _ hx406_5)).trans hx406_5
        replace hx406_6 := (HB.out.cell (World.block_lt_of_cell? w _ hx406_6)).trans hx406_6
        replace hx406_7 := (HB.out.cell (World.block_lt_of_cell? w _ hx406_7)).trans hx406_7
        replace hx406_8 := (HB.out.cell (World.block_lt_of_cell? w _ hx406_8)).trans hx406_8
        replace hx406_9 := (HB.out.cell (World.block_lt_of_cell? w _ hx406_9)).trans hx406_9
        replace hx406_10 := (HB.out.cell (World.block_lt_of_cell? w _ hx406_10)).trans hx406_10
        replace hx406_11 := (HB.out.cell (World.block_lt_of_cell? w _ hx406_11)).trans hx406_11
        replace hx406_12 := (HB.out.cell (World.block_lt_of_cell? w _ hx406_12)).trans hx406_12
        have HR406_3 := Aside0.mk hi406_3
        have HC406_3 := Aside0.mk hl406_3
        clear hi406_3 hl406_3
        replace p406 := eq_true p406
        replace q406 := eq_true q406
        have p407 : 0 ≤ (x5_1 : Int) := of_decide_eq_true (by first | (with_reducible assumption) | assumption)
        have q407 : x5_1 < (l1.length : Int) := of_decide_eq_true (by first | (with_reducible assumption) | assumption)
        obtain ⟨ad407, A407_3, c407_3, e407, hx407_0, hx407_1, hx407_2, hx407_3, hx407_4, hx407_5, hx407_6, hx407_7, hx407_8, hx407_9, hx407_10, hx407_11, hx407_12, hl407_3, hi407_3⟩ := at_T32 HR1.out x5_1 p407 q407
        have hw407_12 := hx407_12
        have hw407_11 := hx407_11
        have hw407_10 := hx407_10
        have hw407_9 := hx407_9
        have hw407_8 := hx407_8
        have hw407_7 := hx407_7
        have hw407_6 := hx407_6
        have hw407_5 := hx407_5
        have hw407_4 := hx407_4
        have hw407_3 := hx407_3
        have hw407_2 := hx407_2
        have hw407_1 := hx407_1
        have hw407_0 := hx407_0
        cases e407
        replace hx407_0 := (HB.out.cell (World.block_lt_of_cell? w _ hx407_0)).trans hx407_0
        replace hx407_1 := (HB.out.cell (World.block_lt_of_cell? w _ hx407_1)).trans hx407_1
        replace hx407_2 := (HB.out.cell (World.block_lt_of_cell? w _ hx407_2)).trans hx407_2
        replace hx407_3 := (HB.out.cell (World.block_lt_of_cell? w _ hx407_3)).trans hx407_3
        replace hx407_4 := (HB.out.cell (World.block_lt_of_cell? w _ hx407_4)).trans hx407_4
        replace hx407_5 := (HB.out.cell (World.block_lt_of_cell? w _ hx407_5)).trans hx407_5
        replace hx407_6 := (HB.out.cell (World.block_lt_of_cell? w _ hx407_6)).trans hx407_6
        replace hx407_7 := (HB.out.cell (World.block_lt_of_cell? w _ hx407_7)).trans hx407_7
        replace hx407_8 := (HB.out.cell (World.block_lt_of_cell? w _ hx407_8)).trans hx407_8
        replace hx407_9 := (HB.out.cell (World.block_lt_of_cell? w _ hx407_9)).trans hx407_9
        replace hx407_10 := (HB.out.cell (World.block_lt_of_cell? w _ hx407_10)).trans hx407_10
        replace hx407_11 := (HB.out.cell (World.block_lt_of_cell? w _ hx407_11)).trans hx407_11
        replace hx407_12 := (HB.out.cell (World.block_lt_of_cell? w _ hx407_12)).trans hx407_12
        have HR407_3 := Aside0.mk hi407_3
        have HC407_3 := Aside0.mk hl407_3
        clear hi407_3 hl407_3
        replace p407 := eq_true p407
        replace q407 := eq_true q407
        refine start_ (n := 10) (S := fun w' => w'.cell? (ad406.add ((x5_1).toNat * 13)) = some (.int .i64 ((rd_T32 l0 x5_1).f0.f0)) ∧ w'.cell? ⟨(ad406.add ((x5_1).toNat * 13)).block, (ad406.add ((x5_1).toNat * 13)).off + 1, none⟩ = some (.int .i64 ((rd_T32 l0 x5_1).f0.f1)) ∧ w'.cell? ⟨(ad406.add ((x5_1).toNat * 13)).block, (ad406.add ((x5_1).toNat * 13)).off + 2, none⟩ = some (.int .i64 ((rd_T32 l0 x5_1).f1)) ∧ w'.cell? ⟨(ad406.add ((x5_1).toNat * 13)).block, (ad406.add ((x5_1).toNat * 13)).off + 3, none⟩ = some (.slice A406_3 ((rd_T32 l0 x5_1).f2).length c406_3) ∧ w'.cell? ⟨(ad406.add ((x5_1).toNat * 13)).block, (ad406.add ((x5_1).toNat * 13)).off + 4, none⟩ = some (.int .i64 ((rd_T32 l0 x5_1).f3)) ∧ w'.cell? ⟨(ad406.add ((x5_1).toNat * 13)).block, (ad406.add ((x5_1).toNat * 13)).off + 5, none⟩ = some (.int .i64 ((rd_T32 l0 x5_1).f4.f0)) ∧ w'.cell? ⟨(ad406.add ((x5_1).toNat * 13)).block, (ad406.add ((x5_1).toNat * 13)).off + 6, none⟩ = some (.int .i64 ((rd_T32 l0 x5_1).f4.f1)) ∧ w'.cell? ⟨(ad406.add ((x5_1).toNat * 13)).block, (ad406.add ((x5_1).toNat * 13)).off + 7, none⟩ = some (.int .i64 ((rd_T32 l0 x5_1).f5.f0)) ∧ w'.cell? ⟨(ad406.add ((x5_1).toNat * 13)).block, (ad406.add ((x5_1).toNat * 13)).off + 8, none⟩ = some (.int .i64 ((rd_T32 l0 x5_1).f5.f1)) ∧ w'.cell? ⟨(ad406.add ((x5_1).toNat * 13)).block, (ad406.add ((x5_1).toNat * 13)).off + 9, none⟩ = some (.int .i64 ((rd_T32 l0 x5_1).f6.f0)) ∧ w'.cell? ⟨(ad406.add ((x5_1).toNat * 13)).block, (ad406.add ((x5_1).toNat * 13)).off + 10, none⟩ = some (.int .i64 ((rd_T32 l0 x5_1).f6.f1)) ∧ w'.cell? ⟨(ad406.add ((x5_1).toNat * 13)).block, (ad406.add ((x5_1).toNat * 13)).off + 11, none⟩ = some (.string ((rd_T32 l0 x5_1).f7)) ∧ w'.cell? ⟨(ad406.add ((x5_1).toNat * 13)).block, (ad406.add ((x5_1).toNat * 13)).off + 12, none⟩ = some (.string ((rd_T32 l0 x5_1).f8)) ∧ w'.cell? (ad407.add ((x5_1).toNat * 13)) = some (.int .i64 ((rd_T32 l1 x5_1).f0.f0)) ∧ w'.cell? ⟨(ad407.add ((x5_1).toNat * 13)).block, (ad407.add ((x5_1).toNat * 13)).off + 1, none⟩ = some (.int .i64 ((rd_T32 l1 x5_1).f0.f1)) ∧ w'.cell? ⟨(ad407.add ((x5_1).toNat * 13)).block, (ad407.add ((x5_1).toNat * 13)).off + 2, none⟩ = some (.int .i64 ((rd_T32 l1 x5_1).f1)) ∧ w'.cell? ⟨(ad407.add ((x5_1).toNat * 13)).block, (ad407.add ((x5_1).toNat * 13)).off + 3, none⟩ = some (.slice A407_3 ((rd_T32 l1 x5_1).f2).length c407_3) ∧ w'.cell? ⟨(ad407.add ((x5_1).toNat * 13)).block, (ad407.add ((x5_1).toNat * 13)).off + 4, none⟩ = some (.int .i64 ((rd_T32 l1 x5_1).f3)) ∧ w'.cell? ⟨(ad407.add ((x5_1).toNat * 13)).block, (ad407.add ((x5_1).toNat * 13)).off + 5, none⟩ = some (.int .i64 ((rd_T32 l1 x5_1).f4.f0)) ∧ w'.cell? ⟨(ad407.add ((x5_1).toNat * 13)).block, (ad407.add ((x5_1).toNat * 13)).off + 6, none⟩ = some (.int .i64 ((rd_T32 l1 x5_1).f4.f1)) ∧ w'.cell? ⟨(ad407.add ((x5_1).toNat * 13)).block, (ad407.add ((x5_1).toNat * 13)).off + 7, none⟩ = some (.int .i64 ((rd_T32 l1 x5_1).f5.f0)) ∧ w'.cell? ⟨(ad407.add ((x5_1).toNat * 13)).block, (ad407.add ((x5_1).toNat * 13)).off + 8, none⟩ = some (.int .i64 ((rd_T32 l1 x5_1).f5.f1)) ∧ w'.cell? ⟨(ad407.add ((x5_1).toNat * 13)).block, (ad407.add ((x5_1).toNat * 13)).off + 9, none⟩ = some (.int .i64 ((rd_T32 l1 x5_1).f6.f0)) ∧ w'.cell? ⟨(ad407.add ((x5_1).toNat * 13)).block, (ad407.add ((x5_1).toNat * 13)).off + 10, none⟩ = some (.int .i64 ((rd_T32 l1 x5_1).f6.f1)) ∧ w'.cell? ⟨(ad407.add ((x5_1).toNat * 13)).block, (ad407.add ((x5_1).toNat * 13)).off + 11, none⟩ = some (.string ((rd_T32 l1 x5_1).f7)) ∧ w'.cell? ⟨(ad407.add ((x5_1).toNat * 13)).block, (ad407.add ((x5_1).toNat * 13)).off + 12, none⟩ = some (.string ((rd_T32 l1 x5_1).f8))) (ds := []) #[false, false, false, false, false, false, false, false, false, false] (by kernel_rfl) rfl rfl ⟨((HB.out.cell (World.block_lt_of_cell? w _ hw406_0)).trans hw406_0), ((HB.out.cell (World.block_lt_of_cell? w _ hw406_1)).trans hw406_1), ((HB.out.cell (World.block_lt_of_cell? w _ hw406_2)).trans hw406_2), ((HB.out.cell (World.block_lt_of_cell? w _ hw406_3)).trans hw406_3), ((HB.out.cell (World.block_lt_of_cell? w _ hw406_4)).trans hw406_4), ((HB.out.cell (World.block_lt_of_cell? w _ hw406_5)).trans hw406_5), ((HB.out.cell (World.block_lt_of_cell? w _ hw406_6)).trans hw406_6), ((HB.out.cell (World.block_lt_of_cell? w _ hw406_7)).trans hw406_7), ((HB.out.cell (World.block_lt_of_cell? w _ hw406_8)).trans hw406_8), ((HB.out.cell (World.block_lt_of_cell? w _ hw406_9)).trans hw406_9), ((HB.out.cell (World.block_lt_of_cell? w _ hw406_10)).trans hw406_10), ((HB.out.cell (World.block_lt_of_cell? w _ hw406_11)).trans hw406_11), ((HB.out.cell (World.block_lt_of_cell? w _ hw406_12)).trans hw406_12), ((HB.out.cell (World.block_lt_of_cell? w _ hw407_0)).trans hw407_0), ((HB.out.cell (World.block_lt_of_cell? w _ hw407_1)).trans hw407_1), ((HB.out.cell (World.block_lt_of_cell? w _ hw407_2)).trans hw407_2), ((HB.out.cell (World.block_lt_of_cell? w _ hw407_3)).trans hw407_3), ((HB.out.cell (World.block_lt_of_cell? w _ hw407_4)).trans hw407_4), ((HB.out.cell (World.block_lt_of_cell? w _ hw407_5)).trans hw407_5), ((HB.out.cell (World.block_lt_of_cell? w _ hw407_6)).trans hw407_6), ((HB.out.cell (World.block_lt_of_cell? w _ hw407_7)).trans hw407_7), ((HB.out.cell (World.block_lt_of_cell? w _ hw407_8)).trans hw407_8), ((HB.out.cell (World.block_lt_of_cell? w _ hw407_9)).trans hw407_9), ((HB.out.cell (World.block_lt_of_cell? w _ hw407_10)).trans hw407_10), ((HB.out.cell (World.block_lt_of_cell? w _ hw407_11)).trans hw407_11), ((HB.out.cell (World.block_lt_of_cell? w _ hw407_12)).trans hw407_12)⟩ (fun hHeld => ?_); refine with_tabW topiaryref05_SameAll.tab6 topiaryref05_SameAll.bits6 (fun HT_ HW_ => ?_)
        generalize wr.drew = w11 at HB HR406_3 HR407_3 hx406_0 hx406_1 hx406_10 hx406_11 hx406_12 hx406_2 hx406_3 hx406_4 hx406_5 hx406_6 hx406_7 hx406_8 hx406_9 hx407_0 hx407_1 hx407_10 hx407_11 hx407_12 hx407_2 hx407_3 hx407_4 hx407_5 hx407_6 hx407_7 hx407_8 hx407_9 hHeld ⊢
        refine pureS (i := 0) (N := some 17) #[true, false, false, false, false, false, false, false, false, false] HT_ ?_
        refine pureS (i := 1) (N := some 18) #[true, true, false, false, false, false, false, false, false, false] HT_ ?_
        refine pureS (i := 2) (N := some 19) #[true, true, true, false, false, false, false, false, false, false] HT_ ?_
        refine pureS (i := 4) (N := some 21) #[true, true, true, false, true, false, false, false, false, false] HT_ ?_
        refine pureS (i := 5) (N := some 22) #[true, true, true, false, true, true, false, false, false, false] HT_ ?_
        refine pureS (i := 6) (N := some 23) #[true, true, true, false, true, true, true, false, false, false] HT_ ?_
        refine take_ (i := 3) (N := some 20) (v := ?_) (a' := ?_) #[true, true, true, true, true, true, true, false, false, false] rfl rfl (take_ofW HT_.out HW_.out (by kernel_rfl)) (fun _ _ _ h => h) (Or.inl ⟨by rfl, ?_⟩) hHeld ?_ ?_
        rotate_left
        ·rintro w' ⟨s0, s1, s2, s3, s4, s5, s6, s7, s8, s9, s10, s11, s12, s13, s14, s15, s16, s17, s18, s19, s20, s21, s22, s23, s24, s25⟩
         go_simp
         with_reducible rfl
        rotate_left
        ·simp only [Act.put, List.setIfInBounds_toArray, List.set_cons_zero, List.set_cons_succ, i64_w, i32_w]
         rfl
        refine take_ (i := 7) (N := some 24) (v := ?_) (a' := ?_) #[true, true, true, true, true, true, true, true, false, false] rfl rfl (take_ofW HT_.out HW_.out (by kernel_rfl)) (fun _ _ _ h => h) (Or.inl ⟨by rfl, ?_⟩) hHeld ?_ ?_
        rotate_left
        ·rintro w' ⟨s0, s1, s2, s3, s4, s5, s6, s7, s8, s9, s10, s11, s12, s13, s14, s15, s16, s17, s18, s19, s20, s21, s22, s23, s24, s25⟩
         go_simp
         with_reducible rfl
        rotate_left
        ·simp only [Act.put, List.setIfInBounds_toArray, List.set_cons_zero, List.set_cons_succ, i64_w, i32_w]
         rfl
        refine one_ (i := 8) (N := some 25) #[true, true, true, true, true, true, true, true, true, false] rfl rfl (one_of HT_.out (by kernel_rfl)) (by decide) (fun K hK => ?_)
        refine goes_ Try.func45 (by kernel_rfl) rfl #[.agg #[.int .i64 ((rd_T32 l0 x5_1).f0.f0), .int .i64 ((rd_T32 l0 x5_1).f0.f1), .int .i64 ((rd_T32 l0 x5_1).f1), .slice A406_3 ((rd_T32 l0 x5_1).f2).length c406_3, .int .i64 ((rd_T32 l0 x5_1).f3), .int .i64 ((rd_T32 l0 x5_1).f4.f0), .int .i64 ((rd_T32 l0 x5_1).f4.f1), .int .i64 ((rd_T32 l0 x5_1).f5.f0), .int .i64 ((rd_T32 l0 x5_1).f5.f1), .int .i64 ((rd_T32 l0 x5_1).f6.f0), .int .i64 ((rd_T32 l0 x5_1).f6.f1), .string ((rd_T32 l0 x5_1).f7), .string ((rd_T32 l0 x5_1).f8)], .agg #[.int .i64 ((rd_T32 l1 x5_1).f0.f0), .int .i64 ((rd_T32 l1 x5_1).f0.f1), .int .i64 ((rd_T32 l1 x5_1).f1), .slice A407_3 ((rd_T32 l1 x5_1).f2).length c407_3, .int .i64 ((rd_T32 l1 x5_1).f3), .int .i64 ((rd_T32 l1 x5_1).f4.f0), .int .i64 ((rd_T32 l1 x5_1).f4.f1), .int .i64 ((rd_T32 l1 x5_1).f5.f0), .int .i64 ((rd_T32 l1 x5_1).f5.f1), .int .i64 ((rd_T32 l1 x5_1).f6.f0), .int .i64 ((rd_T32 l1 x5_1).f6.f1), .string ((rd_T32 l1 x5_1).f7), .string ((rd_T32 l1 x5_1).f8)]] (by rfl) rfl rfl (by (try simp only [List.map_toArray, List.map_cons, List.map_nil]); first | done | rfl | (simp only [List.length_drop, List.length_take]; rfl)) ?_
        with_reducible refine (topiaryref05_Same.calls k1 ((rd_T32 l0 x5_1).f0.f0) ((rd_T32 l0 x5_1).f0.f1) ((rd_T32 l0 x5_1).f1) _ _ ((rd_T32 l0 x5_1).f2) ((rd_T32 l0 x5_1).f3) ((rd_T32 l0 x5_1).f4.f0) ((rd_T32 l0 x5_1).f4.f1) ((rd_T32 l0 x5_1).f5.f0) ((rd_T32 l0 x5_1).f5.f1) ((rd_T32 l0 x5_1).f6.f0) ((rd_T32 l0 x5_1).f6.f1) ((rd_T32 l0 x5_1).f7) ((rd_T32 l0 x5_1).f8) ((rd_T32 l1 x5_1).f0.f0) ((rd_T32 l1 x5_1).f0.f1) ((rd_T32 l1 x5_1).f1) _ _ ((rd_T32 l1 x5_1).f2) ((rd_T32 l1 x5_1).f3) ((rd_T32 l1 x5_1).f4.f0) ((rd_T32 l1 x5_1).f4.f1) ((rd_T32 l1 x5_1).f5.f0) ((rd_T32 l1 x5_1).f5.f1) ((rd_T32 l1 x5_1).f6.f0) ((rd_T32 l1 x5_1).f6.f1) ((rd_T32 l1 x5_1).f7) ((rd_T32 l1 x5_1).f8) false _ ?side1 ?side2 ?side3 ?side4 A7.out).mono ?_
        (case side1 => repeat (first | exact (Kd.C_below HR406_3.out HB.out) | (with_reducible refine Kd.C_alloc ?_ _) | (with_reducible refine Kd.C_drewN ?_ _) | (with_reducible refine Kd.C_drew ?_)))
        (case side2 => exact HC406_3.out)
        (case side3 => repeat (first | exact (Kd.C_below HR407_3.out HB.out) | (with_reducible refine Kd.C_alloc ?_ _) | (with_reducible refine Kd.C_drewN ?_ _) | (with_reducible refine Kd.C_drew ?_)))
        (case side4 => exact HC407_3.out)
        rintro e w12 ⟨rfl, hb⟩
        refine ⟨_, rfl, ?_⟩
        have n0_ := Aside0.mk (below_step (by repeat (first | (with_reducible first | exact HB.out | apply below_alloc | apply pw_below_drewN | apply below_drew1) | exact HB.out)) hb)
        clear HB
        have HB := n0_
        clear n0_
        (try clear hb)
        (try clear hb2)
        (try clear hk)
        (try clear hi)
        refine hK.out _ _ ⟨((HB.out.cell (World.block_lt_of_cell? w _ hw406_0)).trans hw406_0), ((HB.out.cell (World.block_lt_of_cell? w _ hw406_1)).trans hw406_1), ((HB.out.cell (World.block_lt_of_cell? w _ hw406_2)).trans hw406_2), ((HB.out.cell (World.block_lt_of_cell? w _ hw406_3)).trans hw406_3), ((HB.out.cell (World.block_lt_of_cell? w _ hw406_4)).trans hw406_4), ((HB.out.cell (World.block_lt_of_cell? w _ hw406_5)).trans hw406_5), ((HB.out.cell (World.block_lt_of_cell? w _ hw406_6)).trans hw406_6), ((HB.out.cell (World.block_lt_of_cell? w _ hw406_7)).trans hw406_7), ((HB.out.cell (World.block_lt_of_cell? w _ hw406_8)).trans hw406_8), ((HB.out.cell (World.block_lt_of_cell? w _ hw406_9)).trans hw406_9), ((HB.out.cell (World.block_lt_of_cell? w _ hw406_10)).trans hw406_10), ((HB.out.cell (World.block_lt_of_cell? w _ hw406_11)).trans hw406_11), ((HB.out.cell (World.block_lt_of_cell? w _ hw406_12)).trans hw406_12), ((HB.out.cell (World.block_lt_of_cell? w _ hw407_0)).trans hw407_0), ((HB.out.cell (World.block_lt_of_cell? w _ hw407_1)).trans hw407_1), ((HB.out.cell (World.block_lt_of_cell? w _ hw407_2)).trans hw407_2), ((HB.out.cell (World.block_lt_of_cell? w _ hw407_3)).trans hw407_3), ((HB.out.cell (World.block_lt_of_cell? w _ hw407_4)).trans hw407_4), ((HB.out.cell (World.block_lt_of_cell? w _ hw407_5)).trans hw407_5), ((HB.out.cell (World.block_lt_of_cell? w _ hw407_6)).trans hw407_6), ((HB.out.cell (World.block_lt_of_cell? w _ hw407_7)).trans hw407_7), ((HB.out.cell (World.block_lt_of_cell? w _ hw407_8)).trans hw407_8), ((HB.out.cell (World.block_lt_of_cell? w _ hw407_9)).trans hw407_9), ((HB.out.cell (World.block_lt_of_cell? w _ hw407_10)).trans hw407_10), ((HB.out.cell (World.block_lt_of_cell? w _ hw407_11)).trans hw407_11), ((HB.out.cell (World.block_lt_of_cell? w _ hw407_12)).trans hw407_12)⟩ (fun hHeld => ?_)
        clear hK K
        refine norm_ (a' := ?_) ?_ ?_
        rotate_left
        ·show Act.put _ (some 25) _ = _
         simp only [Act.put, List.setIfInBounds_toArray, List.set_cons_zero, List.set_cons_succ, i64_w, i32_w]
         rfl
        refine pureS (i := 9) (N := some 26) #[true, true, true, true, true, true, true, true, true, true] HT_ ?_
        refine done_ (done_of HT_.out (by kernel_rfl)) ?_
        try go_wp2
        go_ret
        exact ⟨by first | rfl | (simp [errW_none, errW_some] <;> rfl) | (simp [*, errW_none, errW_some] <;> rfl), by repeat (first | (with_reducible first | exact HB.out | apply below_alloc | apply pw_below_drewN | apply below_drew1) | exact HB.out)⟩
      ·rw [if_neg c6] at H
       exact absurd H (by simp)
     ·rw [if_neg c5] at H
      exact absurd H (by simp)
    ·rw [if_neg c4] at H
     have c4b0 : decide (x5_1 < (l0.length : Int)) = false := decide_eq_false c4
     clear c4
     obtain rfl := Option.some.inj H
     go_wp2
     go_ret
     exact ⟨by first | rfl | (simp [errW_none, errW_some] <;> rfl) | (simp [*, errW_none, errW_some] <;> rfl), by repeat (first | (with_reducible first | exact HB.out | apply below_alloc | apply pw_below_drewN | apply below_drew1) | exact HB.out)⟩
 ·rw [if_neg c3] at H
  have c3b0 : ((l0.length : Int) == (l1.length : Int)) = false := beq_eq_false_iff_ne.mpr c3
  have c3b1 : ((l0.length : Int) != (l1.length : Int)) = true := bne_iff_ne.mpr c3
  have c3b2 : (l0.length == l1.length) = false := by first | simpa using c3 | (simp at c3 ⊢; omega)
  obtain rfl := Option.some.inj H
  go_enter Try.func15, Try.ntmps15
  go_wp2
  go_ret
  exact ⟨by first | rfl | (simp [errW_none, errW_some] <;> rfl) | (simp [*, errW_none, errW_some] <;> rfl), by repeat (first | (with_reducible first | exact HB.out | apply below_alloc | apply pw_below_drewN | apply below_drew1) | exact HB.out)⟩
end Go.Proofs.Ytnopjjilpgekfaa.PCa
namespace Go.Proofs.Ytnopjjilpgekfaa.PCa
open Go.RowKit Go.Proofs.YtnopjjilpgekfaaW.PrintWords Go.Proofs.YtnopjjilpgekfaaW.PrintLast Go.Proofs.YtnopjjilpgekfaaW.PrintMore
set_option linter.unusedVariables false
set_option linter.unusedSimpArgs false
/-- A law's buffer: its blocks are P, all of them the law's own. -/
structure BI (w0 W : World) (g : Nat) (room : Int) (L : List S32) (P : Nat → Prop) : Prop where
  buf : BufI W w0.heap.size P g room L
  lo : ∀ k, P k → w0.heap.size ≤ k
  hi : ∀ k, P k → k < W.heap.size
  good : Good L
  len : (L.length : Int) ≤ room
  rm : room ≤ 256
  bel : Below w0.heap.size w0 W
section
variable {w0 W W1 : World} {g : Nat} {room : Int} {L : List S32} {P : Nat → Prop}
theorem BI.below (h : BI w0 W g room L P) (hb : Below W.heap.size W W1) : BI w0 W1 g room L P :=
  ⟨h.buf.below hb, h.lo, fun k hk => Nat.lt_of_lt_of_le (h.hi k hk) hb.size, h.good, h.len, h.rm, h.bel.trans (hb.mono h.bel.size)⟩
theorem BI.new {room : Int} (hr0 : 0 ≤ room) (hr : room ≤ 256) (hb : BufI W1 W.heap.size (fun k => W.heap.size ≤ k) g room []) (hw : Below W.heap.size W W1) (h0 : Below w0.heap.size w0 W) : BI w0 W1 g room [] (fun k => W.heap.size ≤ k ∧ k < W1.heap.size) := by
  have hs := h0.size
  refine ⟨?_, fun k hk => Nat.le_trans hs hk.1, fun k hk => hk.2, Good.nil, by simpa using hr0, hr, h0.trans (hw.mono hs)⟩
  obtain ⟨mb, es, c, A, ch, h1, h2, h3, h4, h5, h6, h7, h8⟩ := hb.bound
  exact ⟨mb, es, c, A, ch, h1, by omega, h3, by omega, h5, h6, h7, Kd.S_lower h8 hs⟩
theorem BI.of_take0 (h : BI w0 W g room L P) {known : List Int} {x : S32} {e : Ending} {W' : World} (ht : TakeB W w0.heap.size P g room (takeF room L known x) e W') :
    ∃ (P' O : Nat → Prop) (v' : Value), e = .returned (.tuple #[v', .int .i64 (takeF room L known x).2.2]) ∧ BI w0 W' g room (takeF room L known x).1 P' ∧ Kd.S k32 32 W' w0.heap.size O v' (takeF room L known x).2.1 ∧ (∀ k, O k → ¬ P' k) ∧ (∀ k, O k → w0.heap.size ≤ k ∧ (P k ∨ W.heap.size ≤ k)) ∧ (∀ k, P' k → P k ∨ W.heap.size ≤ k) ∧ Kept W W' P := by
  obtain ⟨P', O, v', he, hb, hs, hp, hd, ho, hk⟩ := ht
  have hsz := h.bel.size
  refine ⟨fun k => P' k ∧ k < W'.heap.size, O, v', he, ⟨hb.bound, fun k hk' => ?_, fun k hk' => hk'.2, take_good h.good known x, take_room h.len known x, h.rm, ?_⟩, hs, fun k hk' hp' => hd k hk' hp'.1, fun k hk' => ⟨?_, ho k hk'⟩, fun k hk' => hp k hk'.1, hk⟩
  · rcases hp k hk'.1 with h1 | h1
    · exact h.lo k h1
    · omega
  · exact ((Kept.of_below h.bel (fun k => w0.heap.size ≤ k)).then_ hk (fun k hk' => .inl (h.lo k hk'))).to_below (fun _ h => h)
  · rcases ho k hk' with h1 | h1
    · exact h.lo k h1
    · omega
theorem BI.of_take (h : BI w0 W g room L P) {known : List Int} {x : S32} {e : Ending} {W' : World} {Lr out : List S32} {er : Int} (hr : takeF room L known x = (Lr, out, er)) (ht : TakeB W w0.heap.size P g room (Lr, out, er) e W') :
    ∃ (P' O : Nat → Prop) (v' : Value), e = .returned (.tuple #[v', .int .i64 er]) ∧ BI w0 W' g room Lr P' ∧ Kd.S k32 32 W' w0.heap.size O v' out ∧ (∀ k, O k → ¬ P' k) ∧ (∀ k, O k → w0.heap.size ≤ k ∧ (P k ∨ W.heap.size ≤ k)) ∧ (∀ k, P' k → P k ∨ W.heap.size ≤ k) ∧ Kept W W' P := by
  have := h.of_take0 (known := known) (x := x) (e := e) (W' := W') (by rw [hr]; exact ht)
  rw [hr] at this
  exact this
end
theorem same02_self (l : List Int) : ∀ (n i k : Nat), i + n = l.length → l.length < 90000 → n < k → topiaryref02_Same.l0 k l l (i : Int) = some true := by
  intro n
  induction n with
  | zero =>
    intro i k hi hl hk
    obtain ⟨k, rfl⟩ : ∃ m, k = m + 1 := ⟨k - 1, by omega⟩
    rw [topiaryref02_Same.l0, if_neg (by omega)]
  | succ n ih =>
    intro i k hi hl hk
    obtain ⟨k, rfl⟩ : ∃ m, k = m + 1 := ⟨k - 1, by omega⟩
    rw [topiaryref02_Same.l0, if_pos (by omega), if_pos (by omega), if_pos (by omega), if_pos rfl, w1 (by omega)]
    exact ih (i + 1) k (by omega) hl (by omega)
theorem same05_self (x : S32) (hx : x.f2.length ≤ 64) (k : Nat) (hk : 70 < k) : topiaryref05_Same.f k x.f0.f0 x.f0.f1 x.f1 x.f2 x.f3 x.f4.f0 x.f4.f1 x.f5.f0 x.f5.f1 x.f6.f0 x.f6.f1 x.f7 x.f8 x.f0.f0 x.f0.f1 x.f1 x.f2 x.f3 x.f4.f0 x.f4.f1 x.f5.f0 x.f5.f1 x.f6.f0 x.f6.f1 x.f7 x.f8 = some true := by
  have h2 : topiaryref02_Same.f k x.f2 x.f2 = some true := by
    unfold topiaryref02_Same.f
    rw [if_pos rfl]
    exact same02_self x.f2 x.f2.length 0 k (by omega) (by omega) (by omega)
  unfold topiaryref05_Same.f
  rw [if_pos (by simp), if_pos rfl, h2, Option.bind_some, if_pos rfl, if_pos rfl, if_pos (by simp), if_pos (by simp), if_pos (by simp), if_pos rfl, beq_self_eq_true]
theorem sameAll_loop (l : List S32) (hx : ∀ x ∈ l, x.f2.length ≤ 64) (hl : l.length < 90000) : ∀ (n i k : Nat), i + n = l.length → n + 80 < k → topiaryref05_SameAll.l0 k l l (i : Int) = some true := by
  intro n
  induction n with
  | zero =>
    intro i k hi hk
    obtain ⟨k, rfl⟩ : ∃ m, k = m + 1 := ⟨k - 1, by omega⟩
    rw [topiaryref05_SameAll.l0, if_neg (by omega)]
  | succ n ih =>
    intro i k hi hk
    obtain ⟨k, rfl⟩ : ∃ m, k = m + 1 := ⟨k - 1, by omega⟩
    rw [topiaryref05_SameAll.l0, if_pos (by omega), if_pos (by omega), if_pos (by omega), same05_self _ (hx _ (List.mem_of_getElem? (rd32_at (by omega : i < l.length)))) k (by omega), Option.bind_some, if_pos rfl, w1 (by omega)]
    exact ih (i + 1) k (by omega) (by omega)
theorem SameAll_is (l : List S32) (hx : ∀ x ∈ l, x.f2.length ≤ 64) (hl : l.length < 1000) : topiaryref05_SameAll.f 2000 l l = some true := by
  unfold topiaryref05_SameAll.f
  rw [if_pos rfl]
  exact sameAll_loop l hx (by omega) l.length 0 2000 (by omega) (by omega)
theorem chk_ne6 (l : List Int) : chkC l ≠ 6 := by
  unfold chkC
  split
  · decide
  · split <;> decide
theorem deps_ne6 (a b : Int) (d : List Int) : depsC a b d ≠ 6 := by
  unfold depsC
  split
  · split <;> decide
  · exact chk_ne6 d
theorem tail_ne6 (a : Int) (t : ByteArray) : tailC a t ≠ 6 := by
  unfold tailC
  split
  · decide
  · split
    · decide
    · split <;> decide
theorem words_ne6 (a : Int) (s t : ByteArray) : wordsC a s t ≠ 6 := by
  unfold wordsC
  split
  · split
    · exact tail_ne6 a t
    · decide
  · split
    · exact tail_ne6 a t
    · decide
theorem check_ne6 (x : S32) : checkX x ≠ 6 := by
  unfold checkX checkC
  split
  · decide
  · split
    · split
      · decide
      · split
        · split
          · exact words_ne6 _ _ _
          · decide
        · exact deps_ne6 _ _ _
    · decide
theorem take_full_iff {room : Int} {L : List S32} (hl : (L.length : Int) ≤ room) (x : S32) : (takeF room L [] x).2.2 = 6 → (L.length : Int) = room ∧ (takeF room L [] x).1 = L ∧ (takeF room L [] x).2.1 = [] := by
  unfold takeF
  rw [if_pos (show chkC [] = 0 from rfl)]
  split
  · split
    · intro h; exact absurd (show (5 : Int) = 6 from h) (by decide)
    · split
      · intro h; exact absurd (show (0 : Int) = 6 from h) (by decide)
      · split
        · intro _; exact ⟨by omega, rfl, rfl⟩
        · intro h; exact absurd (show (0 : Int) = 6 from h) (by decide)
  · intro h; exact absurd (show checkX x = 6 from h) (check_ne6 x)
end Go.Proofs.Ytnopjjilpgekfaa.PCa
namespace Go.Proofs.Ytnopjjilpgekfaa.PCa
open Go.RowKit Go.Proofs.YtnopjjilpgekfaaW.PrintWords Go.Proofs.YtnopjjilpgekfaaW.PrintLast Go.Proofs.YtnopjjilpgekfaaW.PrintMore
attribute [local go_sem] max2_int min2_int max_two min_two max_three min_three max_four min_four
set_option linter.unusedVariables false
set_option linter.unusedSimpArgs false
set_option maxHeartbeats 8000000 in
set_option maxRecDepth 100000 in
theorem full_law_none (w : World) (room : Int) (hr : room < 0 ∨ 256 < room) (v : Value) : Calls Try.prog 6 #[.int .i64 room, v] w fun e w' => e = .returned (.bool true) ∧ Below w.heap.size w w' := by
  have HN := Aside0.mk (new_none w room hr)
  clear hr
  go_enter Try.func6, Try.ntmps6
  go_wp2_with (go_at_call 11; refine HN.out.mono ?_; rintro e w1 ⟨rfl, rfl⟩)
  refine (awake_calls _).mono ?_
  rintro e w2 ⟨rfl, hb⟩
  have HB := Aside0.mk hb
  clear hb
  go_wp2_with (fail)
  go_ret
  exact ⟨rfl, HB.out⟩
/-- An element of a law's own list. -/
theorem elem_of {w : World} {A1 : Option Addr} {l : List S32} (hl : Kd.C k32 w A1 l.length l) {i : Nat} (hi : i < l.length) :
    ∃ ad A3 c3, A1 = some ad ∧ (∀ W, Below w.heap.size w W → ∀ j u, (chL (rd_T32 l (i : Int)) (.slice A3 (rd_T32 l (i : Int)).f2.length c3))[j]? = some u → W.cell? ((ad.add (i * 13)).add j) = some u) ∧ (rd_T32 l (i : Int)).f2.length ≤ c3 ∧ (Kd.int .i64).C w A3 (rd_T32 l (i : Int)).f2.length (rd_T32 l (i : Int)).f2 := by
  obtain ⟨ad, c, e, hcl, hK, hcc⟩ := Kd.C_get hl z32 (i : Int) (by omega) (by omega)
  obtain ⟨A3, c3, rfl, l3, g3⟩ := k32_open hK
  rw [Int.toNat_natCast] at hcc
  refine ⟨ad, A3, c3, e, fun W hb j u hj => ?_, l3, g3⟩
  rw [add_add]
  have h := hcc j u hj
  exact (hb.cell (World.block_lt_of_cell? w _ h)).trans h
set_option maxHeartbeats 8000000 in
set_option maxRecDepth 100000 in
theorem full_law_some (w : World) (room : Int) (hr0 : 0 ≤ room) (hr : room ≤ 256) (A1 : Option Addr) (c1 : Nat) (l : List S32) (hl : Kd.C k32 w A1 l.length l) (hln : l.length < 4611686018427387904) (hs : ∀ x ∈ l, x.f7.size < 4611686018427387904) :
    Calls Try.prog 6 #[.int .i64 room, .slice A1 l.length c1] w fun e w' => e = .returned (.bool true) ∧ Below w.heap.size w w' := by
  have HNEW := Aside0.mk (new_calls w room hr0 hr)
  have HR0 := Aside0.mk hr0
  have HR := Aside0.mk hr
  have HL := Aside0.mk hl
  have HLN := Aside0.mk hln
  have HS := Aside0.mk hs
  clear hr0 hr hl hln hs
  go_enter Try.func6, Try.ntmps6
  go_wp2_with (fail)
  refine HNEW.out.mono ?_
  rintro e w0 ⟨g, rfl, hbn, hw0⟩
  have HSTART := Aside0.mk (BI.new (w0 := w) HR0.out HR.out hbn hw0 (Below.refl _ _))
  clear hbn hw0 HNEW
  go_wp2_with (fail)
  go_loopw [7] (fun v7 wq => ∃ (i : Nat) (L : List S32) (P : Nat → Prop), v7 = .int .i64 (i : Int) ∧ Aside0 (i ≤ l.length) ∧ Aside0 (BI w wq g room L P)) (fun v7 _ => l.length - (intOf v7).toNat)
  case atStart => exact ⟨0, [], _, rfl, ⟨Nat.zero_le _⟩, HSTART⟩
  case round =>
    clear HSTART
    obtain ⟨i, L, P, rfl, HI, HBI⟩ := hrel
    obtain ⟨wo, rfl⟩ : ∃ wo, wo = wr := ⟨wr, rfl⟩
    by_cases hi : i < l.length
    case neg =>
      have e1 : decide (i < l.length) = false := decide_eq_false hi
      clear hi
      go_wp2_with (fail)
      refine (awake_calls _).mono ?_
      rintro e w2 ⟨rfl, hb⟩
      have HB := Aside0.mk (HBI.out.bel.trans (hb.mono HBI.out.bel.size))
      clear hb
      go_wp2_with (fail)
      go_ret
      exact ⟨rfl, HB.out⟩
    have HI' := Aside0.mk hi
    obtain ⟨ad, A3, c3, rfl, hcc, hl3, hC3⟩ := elem_of HL.out hi
    have hmem : rd_T32 l (i : Int) ∈ l := List.mem_of_getElem? (rd32_at hi)
    have HSZ := Aside0.mk (HS.out _ hmem)
    generalize rd_T32 l (i : Int) = x at *
    have HCC := Aside0.mk hcc
    have HL3 := Aside0.mk hl3
    have HXF := Aside0.mk (Kd.C_F (Kd.heap_int .i64) hC3)
    have HXP : Aside0 (∀ k, k < w.heap.size → ¬ P k) := ⟨fun k hk hp => by have h1_ := HBI.out.lo k hp; omega⟩
    have HSM := Aside0.mk (SameAll_is L HBI.out.good.len (by have h1_ := HBI.out.len; have h2_ := HBI.out.rm; omega))
    have b1 : (0 ≤ (i : Int)) = True := eq_true (by omega)
    have b2 : ((i : Int) < (l.length : Int)) = True := eq_true (by omega)
    have b3 : (i < l.length) = True := eq_true hi
    have b4 : decide (i < l.length) = true := decide_eq_true hi
    have HFI := Aside0.mk (take_full_iff HBI.out.len x)
    have hiw : wrap64 ((i : Int) + 1) = ((i + 1 : Nat) : Int) := by have h1_ := HLN.out; exact w1s (by omega)
    have HIW := Aside0.mk hiw
    clear hcc hl3 hC3 hmem hi hiw
    have hlen := take_room HBI.out.len [] x
    obtain ⟨⟨Lr, out, er⟩, hr⟩ : ∃ r, takeF room L [] x = r := ⟨_, rfl⟩
    rw [hr] at HFI hlen
    have HTF := Aside0.mk hr
    have HLEN : Aside0 ((Lr.length : Int) ≤ room) := ⟨hlen⟩
    clear hr hlen
    by_cases h6 : er = 6
    · obtain ⟨f1, f2, f3⟩ := HFI.out h6
      have f2' : Lr = L := f2
      have f3' : out = [] := f3
      subst f2' f3' h6
      have e1 : ((Lr.length : Int) != room) = false := by rw [bne_eq_false_iff_eq]; exact f1
      have e2 : decide ((Lr.length : Int) > room) = false := decide_eq_false (by omega)
      have e3 : decide (room < (Lr.length : Int)) = false := decide_eq_false (by omega)
      clear f1 f2 f3 HFI
      go_wp2_with (first | (go_at_call 22; (with_reducible refine (held_calls HBI.out.buf ?hn HBI.out.good.len).mono ?_); (case hn => have h1_ := HBI.out.len; have h2_ := HBI.out.rm; omega); rintro e w1 ⟨v8, rfl, hs8, hb8⟩; obtain ⟨A8, c8, rfl⟩ := Kd.S_slice hs8; have HS8 := Aside0.mk (Kd.S_mono (Kd.S_bound hs8) (ok' := fun k => wo.heap.size ≤ k ∧ k < w1.heap.size) (fun k hk => ⟨hk.1, hk.2.2.1⟩)); have HB1 := Aside0.mk hb8; have HBI1 := Aside0.mk (HBI.out.below hb8); clear hs8 hb8) | ((with_reducible refine gate_dst (N := 44) rfl ?_); refine load32_ev rfl (N := 44) rfl x (.slice A3 x.f2.length c3) (p := .tmp 43) rfl rfl (fun j u hj => HCC.out w1 (HBI1.out.bel) j u hj) ?_) | (go_at_call 13; refine (take13_calls HBI1.out.buf HBI1.out.good HBI1.out.len HBI1.out.rm none 0 [] (Kd.C_nil _ _) (Nat.le_refl _) x A3 c3 (Kd.F_below HXF.out HBI1.out.bel) HXP.out HL3.out HSZ.out).mono ?_; rw [HTF.out]; intro e w2 ht_; obtain ⟨P', O, v9, rfl, hbi, hs9, ho1, ho2, hp, hk⟩ := HBI1.out.of_take HTF.out ht_; obtain ⟨A9, c9, rfl⟩ := Kd.S_slice hs9; have HBI2 := Aside0.mk hbi; have HK2 := Aside0.mk hk; clear hbi hs9 ho1 ho2 hp hk ht_) | (go_at_call 22; (with_reducible refine (held_calls HBI2.out.buf ?hn HBI2.out.good.len).mono ?_); (case hn => have h1_ := HBI2.out.len; have h2_ := HBI2.out.rm; omega); rintro e w3 ⟨v10, rfl, hs10, hb10⟩; obtain ⟨A10, c10, rfl⟩ := Kd.S_slice hs10; have HS10 := Aside0.mk hs10; have HB3 := Aside0.mk hb10; clear hs10 hb10) | (go_at_call 15; (with_reducible refine (topiaryref05_SameAll.calls 2000 A8 c8 Lr A10 c10 Lr true _ ?s1 ?s2 ?s3 ?s4 HSM.out).mono ?_); (case s1 => exact Kd.C_below (Kd.S_reads' (Kd.S_step HS8.out (fun k hk hlt => HK2.out.block k hlt (fun hp => by have h1_ := HBI.out.hi k hp; omega)))).2.2 HB3.out); (case s2 => exact (Kd.S_reads' HS8.out).2.1); (case s3 => exact (Kd.S_reads' HS10.out).2.2); (case s4 => exact (Kd.S_reads' HS10.out).2.1); rintro e w4 ⟨rfl, hb4⟩; have HB4 := Aside0.mk (HB3.out.trans (hb4.mono HB3.out.size)); clear hb4) | (go_at_call 16; (with_reducible refine (len_calls (HBI2.out.below HB4.out).buf).mono ?_); rintro e w5 ⟨rfl, rfl⟩))
      rw [HIW.out]
      exact ⟨⟨i + 1, Lr, P', rfl, ⟨HI'.out⟩, ⟨HBI2.out.below HB4.out⟩⟩, dec_lt HI'.out⟩
    · have e0 : (er == 6) = false := by rw [beq_eq_false_iff_ne]; exact h6
      have e2 : decide ((Lr.length : Int) > room) = false := decide_eq_false (by have h1_ := HLEN.out; omega)
      have e3 : decide (room < (Lr.length : Int)) = false := decide_eq_false (by have h1_ := HLEN.out; omega)
      clear h6 HFI
      go_wp2_with (first | (go_at_call 22; (with_reducible refine (held_calls HBI.out.buf ?hn HBI.out.good.len).mono ?_); (case hn => have h1_ := HBI.out.len; have h2_ := HBI.out.rm; omega); rintro e w1 ⟨v8, rfl, hs8, hb8⟩; obtain ⟨A8, c8, rfl⟩ := Kd.S_slice hs8; have HS8 := Aside0.mk (Kd.S_mono (Kd.S_bound hs8) (ok' := fun k => wo.heap.size ≤ k ∧ k < w1.heap.size) (fun k hk => ⟨hk.1, hk.2.2.1⟩)); have HB1 := Aside0.mk hb8; have HBI1 := Aside0.mk (HBI.out.below hb8); clear hs8 hb8) | ((with_reducible refine gate_dst (N := 44) rfl ?_); refine load32_ev rfl (N := 44) rfl x (.slice A3 x.f2.length c3) (p := .tmp 43) rfl rfl (fun j u hj => HCC.out w1 (HBI1.out.bel) j u hj) ?_) | (go_at_call 13; refine (take13_calls HBI1.out.buf HBI1.out.good HBI1.out.len HBI1.out.rm none 0 [] (Kd.C_nil _ _) (Nat.le_refl _) x A3 c3 (Kd.F_below HXF.out HBI1.out.bel) HXP.out HL3.out HSZ.out).mono ?_; rw [HTF.out]; intro e w2 ht_; obtain ⟨P', O, v9, rfl, hbi, hs9, ho1, ho2, hp, hk⟩ := HBI1.out.of_take HTF.out ht_; obtain ⟨A9, c9, rfl⟩ := Kd.S_slice hs9; have HBI2 := Aside0.mk hbi; have HK2 := Aside0.mk hk; clear hbi hs9 ho1 ho2 hp hk ht_) | (go_at_call 16; (with_reducible refine (len_calls HBI2.out.buf).mono ?_); rintro e w5 ⟨rfl, rfl⟩))
      rw [HIW.out]
      exact ⟨⟨i + 1, Lr, P', rfl, ⟨HI'.out⟩, HBI2⟩, dec_lt HI'.out⟩
theorem full_law_calls (w : World) (room : Int) (A1 : Option Addr) (c1 : Nat) (l : List S32) (hl : Kd.C k32 w A1 l.length l) (hln : l.length < 4611686018427387904) (hs : ∀ x ∈ l, x.f7.size < 4611686018427387904) :
    Calls Try.prog 6 #[.int .i64 room, .slice A1 l.length c1] w fun e w' => e = .returned (.bool true) ∧ Below w.heap.size w w' := by
  by_cases h0 : room < 0 ∨ 256 < room
  · exact full_law_none w room h0 _
  · exact full_law_some w room (by omega) (by omega) A1 c1 l hl hln hs
end Go.Proofs.Ytnopjjilpgekfaa.PCa
