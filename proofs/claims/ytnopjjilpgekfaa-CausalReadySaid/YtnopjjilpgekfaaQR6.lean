/- What the statement's row needs of this session's texts, joined by program: part 7. -/
import Derived.Test.YtnopjjilpgekfaaQR5
namespace Go.Proofs.Ytnopjjilpgekfaa.PCa
open Go.RowKit Go.Proofs.YtnopjjilpgekfaaW.PrintWords Go.Proofs.YtnopjjilpgekfaaW.PrintLast Go.Proofs.YtnopjjilpgekfaaW.PrintMore
attribute [local go_sem] max2_int min2_int max_two min_two max_three min_three max_four min_four   -- for this text's walks alone
set_option linter.unusedVariables false
set_option linter.unusedSimpArgs false
def topiaryref05_Copy.f (a0_0 : Int) (a0_1 : Int) (a0_2 : Int) (l0_3 : List Int) (a0_4 : Int) (a0_5 : Int) (a0_6 : Int) (a0_7 : Int) (a0_8 : Int) (a0_9 : Int) (a0_10 : Int) (a0_11 : ByteArray) (a0_12 : ByteArray) : Option (Int × Int × Int × List Int × Int × Int × Int × Int × Int × Int × Int × ByteArray × ByteArray) := (some (([] : List Int) : List Int)).bind fun y236 => (if y236.length + l0_3.length < 17592186044416 then (some (a0_0, a0_1, a0_2, (y236 ++ l0_3), a0_4, a0_5, a0_6, a0_7, a0_8, a0_9, a0_10, a0_11, a0_12)) else (none))
set_option maxHeartbeats 8000000 in
set_option maxRecDepth 100000 in
theorem topiaryref05_Copy.calls (a0_0 : Int) (a0_1 : Int) (a0_2 : Int) (A0_3 : Option Addr) (c0_3 : Nat) (l0_3 : List Int) (a0_4 : Int) (a0_5 : Int) (a0_6 : Int) (a0_7 : Int) (a0_8 : Int) (a0_9 : Int) (a0_10 : Int) (a0_11 : ByteArray) (a0_12 : ByteArray) (r1 : Int) (r2 : Int) (r3 : Int) (r4 : List Int) (r5 : Int) (r6 : Int) (r7 : Int) (r8 : Int) (r9 : Int) (r10 : Int) (r11 : Int) (r12 : ByteArray) (r13 : ByteArray) (w : World) (hr0_3 : Kd.C (Kd.int .i64) w A0_3 l0_3.length l0_3) (hc0_3 : l0_3.length ≤ c0_3) (h : topiaryref05_Copy.f a0_0 a0_1 a0_2 l0_3 a0_4 a0_5 a0_6 a0_7 a0_8 a0_9 a0_10 a0_11 a0_12 = some (r1, r2, r3, r4, r5, r6, r7, r8, r9, r10, r11, r12, r13)) :
  Calls Try.prog 19 #[.agg #[.int .i64 a0_0, .int .i64 a0_1, .int .i64 a0_2, .slice A0_3 l0_3.length c0_3, .int .i64 a0_4, .int .i64 a0_5, .int .i64 a0_6, .int .i64 a0_7, .int .i64 a0_8, .int .i64 a0_9, .int .i64 a0_10, .string a0_11, .string a0_12]] w fun e w' => ∃ v3_ : Value, e = .returned (.agg #[.int .i64 r1, .int .i64 r2, .int .i64 r3, v3_, .int .i64 r5, .int .i64 r6, .int .i64 r7, .int .i64 r8, .int .i64 r9, .int .i64 r10, .int .i64 r11, .string r12, .string r13]) ∧ Kd.R (Kd.int .i64) 3 w' w.heap.size (fun _ => True) v3_ r4 ∧ Below w.heap.size w w' := by
 have hu32 := Try.underlying32
 have HR0_3 := Aside0.mk hr0_3
 have HC0_3 := Aside0.mk hc0_3
 clear hr0_3 hc0_3
 have HB := Aside0.mk (Below.refl w.heap.size w)
 have H : ((some (([] : List Int) : List Int)).bind fun y236 => (if y236.length + l0_3.length < 17592186044416 then (some (a0_0, a0_1, a0_2, (y236 ++ l0_3), a0_4, a0_5, a0_6, a0_7, a0_8, a0_9, a0_10, a0_11, a0_12)) else (none))) = some (r1, r2, r3, r4, r5, r6, r7, r8, r9, r10, r11, r12, r13) := h
 clear h
 obtain ⟨y236, hy236⟩ : ∃ y_ : List Int, y_ = (([] : List Int)) := ⟨_, rfl⟩
 replace H : (if y236.length + l0_3.length < 17592186044416 then (some (a0_0, a0_1, a0_2, (y236 ++ l0_3), a0_4, a0_5, a0_6, a0_7, a0_8, a0_9, a0_10, a0_11, a0_12)) else (none)) = some (r1, r2, r3, r4, r5, r6, r7, r8, r9, r10, r11, r12, r13) := by first | (rw [hy236]; with_reducible exact H) | (have H2_ := (Option.bind_some _ _).symm.trans H; rw [hy236]; with_reducible exact H2_) | (have H2_ := (Option.bind_some _ _).symm.trans H; with_reducible exact H2_) | with_reducible exact H | (rw [hy236]; exact H) | exact H
 have Ny236 := Aside0.mk hy236
 clear hy236
 by_cases c2 : y236.length + l0_3.length < 17592186044416
 ·rw [if_pos c2] at H
  have LMc2 := Aside0.mk c2
  clear c2
  obtain ⟨y239, hy239⟩ : ∃ y_ : List Int, y_ = (y236 ++ l0_3) := ⟨_, rfl⟩
  replace H : (some (a0_0, a0_1, a0_2, y239, a0_4, a0_5, a0_6, a0_7, a0_8, a0_9, a0_10, a0_11, a0_12)) = some (r1, r2, r3, r4, r5, r6, r7, r8, r9, r10, r11, r12, r13) := by first | (rw [hy239]; with_reducible exact H) | (have H2_ := (Option.bind_some _ _).symm.trans H; rw [hy239]; with_reducible exact H2_) | (have H2_ := (Option.bind_some _ _).symm.trans H; with_reducible exact H2_) | with_reducible exact H | (rw [hy239]; exact H) | exact H
  have Ny239 := Aside0.mk hy239
  clear hy239
  simp only [Option.some.injEq, Prod.mk.injEq] at H
  obtain ⟨rfl, rfl, rfl, rfl, rfl, rfl, rfl, rfl, rfl, rfl, rfl, rfl, rfl⟩ := H
  go_enter Try.func19, Try.ntmps19
  go_wp2_with (first | ((with_reducible refine gate_dst (N := 1) rfl ?_); refine box_event ?hg (N := 1) ?hd (cs := #[.int .i64 a0_0, .int .i64 a0_1, .int .i64 a0_2, .slice A0_3 l0_3.length c0_3, .int .i64 a0_4, .int .i64 a0_5, .int .i64 a0_6, .int .i64 a0_7, .int .i64 a0_8, .int .i64 a0_9, .int .i64 a0_10, .string a0_11, .string a0_12]) (t := 32) ?hr ?_; (case hd => rfl); (case hg => rfl); (case hr => first | (go_simp; done) | (go_simp; rfl)); intro gb234 hg w3 hbox hb; have n0_ := Aside0.mk (below_step (by repeat (first | (with_reducible first | exact HB.out | apply below_alloc | apply pw_below_drewN | apply below_drew1) | exact HB.out)) hb); have n1_ := Aside0.mk (hbox); have n2_ := Aside0.mk ((by rw [hg]; exact (below_size (by repeat (first | (with_reducible first | exact HB.out | apply below_alloc | apply pw_below_drewN | apply below_drew1) | exact HB.out))) : w.heap.size ≤ gb234)); have n3_ := Aside0.mk ((by rw [hg]; exact (below_size (by repeat (first | (with_reducible first | exact HB.out | apply below_alloc | apply pw_below_drewN | apply below_drew1) | exact HB.out))) : w.heap.size ≤ gb234)); clear HB; have HB := n0_; have BK234 := n1_; have GW234 := n2_; have GE234 := n3_; clear n0_ n1_ n2_ n3_; clear hb hbox hg) | ((with_reducible refine gate_dst (N := 2) rfl ?_); refine box_event ?hg (N := 2) ?hd (cs := #[.int .i64 0, .int .i64 0, .int .i64 0, .slice none 0 0, .int .i64 0, .int .i64 0, .int .i64 0, .int .i64 0, .int .i64 0, .int .i64 0, .int .i64 0, .string (⟨#[]⟩ : ByteArray), .string (⟨#[]⟩ : ByteArray)]) (t := 32) ?hr ?_; (case hd => rfl); (case hg => rfl); (case hr => first | (go_simp; done) | (go_simp; rfl)); intro gb235 hg w4 hbox hb; have n0_ := Aside0.mk (blk_below (g := gb234) (o := .cells #[.int .i64 a0_0, .int .i64 a0_1, .int .i64 a0_2, .slice A0_3 l0_3.length c0_3, .int .i64 a0_4, .int .i64 a0_5, .int .i64 a0_6, .int .i64 a0_7, .int .i64 a0_8, .int .i64 a0_9, .int .i64 a0_10, .string a0_11, .string a0_12] 32 (0, 0)) (by (with_reducible repeat (first | refine blk_drewN ?_ _ | refine blk_drew ?_ | refine blk_alloc ?_ _)); exact BK234.out) hb); have n1_ := Aside0.mk (below_step (by repeat (first | (with_reducible first | exact HB.out | apply below_alloc | apply pw_below_drewN | apply below_drew1 | refine below_set ?_ GE234.out) | exact HB.out)) hb); have n2_ := Aside0.mk (hbox); have n3_ := Aside0.mk ((by rw [hg]; exact (below_size (by repeat (first | (with_reducible first | exact HB.out | apply below_alloc | apply pw_below_drewN | apply below_drew1 | refine below_set ?_ GE234.out) | exact HB.out))) : w.heap.size ≤ gb235)); have n4_ := Aside0.mk ((by rw [hg]; exact (below_size (by repeat (first | (with_reducible first | exact HB.out | apply below_alloc | apply pw_below_drewN | apply below_drew1 | refine below_set ?_ GE234.out) | exact HB.out))) : w.heap.size ≤ gb235)); have n5_ := Aside0.mk ((by rw [hg]; exact Nat.ne_of_lt (blk_lt (g := gb234) (o := .cells #[.int .i64 a0_0, .int .i64 a0_1, .int .i64 a0_2, .slice A0_3 l0_3.length c0_3, .int .i64 a0_4, .int .i64 a0_5, .int .i64 a0_6, .int .i64 a0_7, .int .i64 a0_8, .int .i64 a0_9, .int .i64 a0_10, .string a0_11, .string a0_12] 32 (0, 0)) (by (with_reducible repeat (first | refine blk_drewN ?_ _ | refine blk_drew ?_ | refine blk_alloc ?_ _)); exact BK234.out)) : gb234 ≠ gb235)); have n6_ := Aside0.mk ((by rw [hg]; exact Nat.ne_of_gt (blk_lt (g := gb234) (o := .cells #[.int .i64 a0_0, .int .i64 a0_1, .int .i64 a0_2, .slice A0_3 l0_3.length c0_3, .int .i64 a0_4, .int .i64 a0_5, .int .i64 a0_6, .int .i64 a0_7, .int .i64 a0_8, .int .i64 a0_9, .int .i64 a0_10, .string a0_11, .string a0_12] 32 (0, 0)) (by (with_reducible repeat (first | refine blk_drewN ?_ _ | refine blk_drew ?_ | refine blk_alloc ?_ _)); exact BK234.out)) : gb235 ≠ gb234)); clear BK234; clear HB; have BK234 := n0_; have HB := n1_; have BK235 := n2_; have GW235 := n3_; have GE235 := n4_; have NB234_235 := n5_; have NB235_234 := n6_; clear n0_ n1_ n2_ n3_ n4_ n5_ n6_; clear hb hbox hg) | ((with_reducible refine gate_dst (N := 3) rfl ?_); refine Kd.R_lit (Kd.int .i64) _ 3 ?hg (N := 3) ?hd (xs := ([] : List Int)) (inner := []) (ok := fun _ => True) (okp := fun _ => True) ?hr ?hp (fun _ hk => hk) trivial (Below.refl _ _) (Nat.le_refl _) (by simp) ?_; (case hd => rfl); (case hg => rfl); (case hr => first | (go_simp; done) | (go_simp; rfl)); (case hp => exact (Reps.none _ _)); intro v237 w5 ho6 hb hg_ hnew_; clear hg_ hnew_; (first | rw [← Ny236.out] at ho6 | (simp only [Int.reduceToNat] at ho6; rw [← Ny236.out] at ho6)); have n0_ := Aside0.mk (Kd.R_lower ho6 (below_size (by repeat (first | (with_reducible first | exact HB.out | apply below_alloc | apply pw_below_drewN | apply below_drew1 | refine below_set ?_ GE234.out | refine below_set ?_ GE235.out) | exact HB.out)))); have n1_ := Aside0.mk (blk_below (g := gb234) (o := .cells #[.int .i64 a0_0, .int .i64 a0_1, .int .i64 a0_2, .slice A0_3 l0_3.length c0_3, .int .i64 a0_4, .int .i64 a0_5, .int .i64 a0_6, .int .i64 a0_7, .int .i64 a0_8, .int .i64 a0_9, .int .i64 a0_10, .string a0_11, .string a0_12] 32 (0, 0)) (by (with_reducible repeat (first | refine blk_drewN ?_ _ | refine blk_drew ?_ | refine blk_alloc ?_ _)); exact BK234.out) hb); have n2_ := Aside0.mk (blk_below (g := gb235) (o := .cells #[.int .i64 0, .int .i64 0, .int .i64 0, .slice none 0 0, .int .i64 0, .int .i64 0, .int .i64 0, .int .i64 0, .int .i64 0, .int .i64 0, .int .i64 0, .string (⟨#[]⟩ : ByteArray), .string (⟨#[]⟩ : ByteArray)] 32 (0, 0)) (by (with_reducible repeat (first | refine blk_drewN ?_ _ | refine blk_drew ?_ | refine blk_alloc ?_ _)); exact BK235.out) hb); have n3_ := Aside0.mk (below_step (by repeat (first | (with_reducible first | exact HB.out | apply below_alloc | apply pw_below_drewN | apply below_drew1 | refine below_set ?_ GE234.out | refine below_set ?_ GE235.out) | exact HB.out)) hb); clear BK234; clear BK235; clear HB; have HO238 := n0_; have BK234 := n1_; have BK235 := n2_; have HB := n3_; clear n0_ n1_ n2_ n3_; clear hb ho6; have hnb7 := NB234_235.out; have hnc7 := NB235_234.out; obtain ⟨hcz8_0, hcz8_1, hcz8_2, hcz8_3, hcz8_4, hcz8_5, hcz8_6, hcz8_7, hcz8_8, hcz8_9, hcz8_10, hcz8_11, hcz8_12⟩ := cells13 BK234.out; obtain ⟨hfz8_0, hfz8_1, hfz8_2, hfz8_3, hfz8_4, hfz8_5, hfz8_6, hfz8_7, hfz8_8, hfz8_9, hfz8_10, hfz8_11, hfz8_12⟩ := froz13 BK234.out) | ((with_reducible refine gate_builtin (b := .append) (xs := #[.tmp 3, .tmp 5]) rfl ?_); at_builtin; refine Kd.R_append_rows (Kd.int .i64) (w0 := w) w.heap.size rfl (.tmp 3) (.tmp 5) 23 3 (.int .i64 0) 8 rfl Try.underlying23 info3 rfl (by decide) (by omega) v237 y236 l0_3 _ _ _ (fun _ => True) (fun _ => False) rfl rfl ?aO ?aR (fun _ _ h => h) (fun _ h => h.elim) ?aF ?aB ?aS ?aL ?_; (case aR => repeat (first | exact (Kd.C_below HR0_3.out HB.out) | (with_reducible refine Kd.C_alloc ?_ _) | (with_reducible refine Kd.C_drewN ?_ _) | (with_reducible refine Kd.C_drew ?_))); (case aB => exact (by repeat (first | (with_reducible first | exact HB.out | apply below_alloc | apply pw_below_drewN | apply below_drew1 | refine below_set ?_ GE234.out | refine below_set ?_ GE235.out) | exact HB.out))); (case aF => exact (fun _ _ => trivial)); (case aO => exact (by (with_reducible repeat (first | apply Kd.R_alloc | apply Kd.R_drewN | apply Kd.R_drew)); exact HO238.out)); (case aS => exact (below_size (by repeat (first | (with_reducible first | exact HB.out | apply below_alloc | apply pw_below_drewN | apply below_drew1 | refine below_set ?_ GE234.out | refine below_set ?_ GE235.out) | exact HB.out)))); (case aL => have := LMc2.out; omega); intro v240 w9 ho hb hg hat; rw [← Ny239.out] at ho; have n0_ := Aside0.mk (blk_grown (g := gb234) (o := .cells #[.int .i64 a0_0, .int .i64 a0_1, .int .i64 a0_2, .slice A0_3 l0_3.length c0_3, .int .i64 a0_4, .int .i64 a0_5, .int .i64 a0_6, .int .i64 a0_7, .int .i64 a0_8, .int .i64 a0_9, .int .i64 a0_10, .string a0_11, .string a0_12] 32 (0, 0)) (by (with_reducible repeat (first | refine blk_drewN ?_ _ | refine blk_drew ?_ | refine blk_alloc ?_ _)); exact BK234.out) hg (Kd.R_ne HO238.out BK234.out (by decide))); have n1_ := Aside0.mk (blk_grown (g := gb235) (o := .cells #[.int .i64 0, .int .i64 0, .int .i64 0, .slice none 0 0, .int .i64 0, .int .i64 0, .int .i64 0, .int .i64 0, .int .i64 0, .int .i64 0, .int .i64 0, .string (⟨#[]⟩ : ByteArray), .string (⟨#[]⟩ : ByteArray)] 32 (0, 0)) (by (with_reducible repeat (first | refine blk_drewN ?_ _ | refine blk_drew ?_ | refine blk_alloc ?_ _)); exact BK235.out) hg (Kd.R_ne HO238.out BK235.out (by decide))); have n2_ := Aside0.mk (hb); have n3_ := Aside0.mk (ho); clear BK234; clear BK235; clear HB; clear HO238; have BK234 := n0_; have BK235 := n1_; have HB := n2_; have HO241 := n3_; clear n0_ n1_ n2_ n3_; clear ho hb hg hat; obtain ⟨Ao10, co10, eo10⟩ := Kd.R_slice HO241.out; subst eo10; obtain ⟨hcz11_0, hcz11_1, hcz11_2, hcz11_3, hcz11_4, hcz11_5, hcz11_6, hcz11_7, hcz11_8, hcz11_9, hcz11_10, hcz11_11, hcz11_12⟩ := cells13 BK234.out; obtain ⟨hfz11_0, hfz11_1, hfz11_2, hfz11_3, hfz11_4, hfz11_5, hfz11_6, hfz11_7, hfz11_8, hfz11_9, hfz11_10, hfz11_11, hfz11_12⟩ := froz13 BK234.out; obtain ⟨hcz12_0, hcz12_1, hcz12_2, hcz12_3, hcz12_4, hcz12_5, hcz12_6, hcz12_7, hcz12_8, hcz12_9, hcz12_10, hcz12_11, hcz12_12⟩ := cells13 BK235.out; obtain ⟨hfz12_0, hfz12_1, hfz12_2, hfz12_3, hfz12_4, hfz12_5, hfz12_6, hfz12_7, hfz12_8, hfz12_9, hfz12_10, hfz12_11, hfz12_12⟩ := froz13 BK235.out))
  refine bodyPost_ret (results_cell_row rfl _ _ gb235 32 #[.int .i64 a0_0, .int .i64 a0_1, .int .i64 a0_2, .slice Ao10 y239.length co10, .int .i64 a0_4, .int .i64 a0_5, .int .i64 a0_6, .int .i64 a0_7, .int .i64 a0_8, .int .i64 a0_9, .int .i64 a0_10, .string a0_11, .string a0_12] (0, 0) _ rfl (by (with_reducible repeat (first | refine blk_drewN ?_ _ | refine blk_drew ?_ | refine blk_alloc ?_ _)); refine blk_put (cs := #[.int .i64 a0_0, .int .i64 a0_1, .int .i64 a0_2, .slice Ao10 y239.length co10, .int .i64 a0_4, .int .i64 a0_5, .int .i64 a0_6, .int .i64 a0_7, .int .i64 a0_8, .int .i64 a0_9, .int .i64 a0_10, .string a0_11, .string (⟨#[]⟩ : ByteArray)]) ?_ 12 _ rfl; (with_reducible repeat (first | refine blk_drewN ?_ _ | refine blk_drew ?_ | refine blk_alloc ?_ _)); refine blk_put (cs := #[.int .i64 a0_0, .int .i64 a0_1, .int .i64 a0_2, .slice Ao10 y239.length co10, .int .i64 a0_4, .int .i64 a0_5, .int .i64 a0_6, .int .i64 a0_7, .int .i64 a0_8, .int .i64 a0_9, .int .i64 a0_10, .string (⟨#[]⟩ : ByteArray), .string (⟨#[]⟩ : ByteArray)]) ?_ 11 _ rfl; (with_reducible repeat (first | refine blk_drewN ?_ _ | refine blk_drew ?_ | refine blk_alloc ?_ _)); refine blk_put (cs := #[.int .i64 a0_0, .int .i64 a0_1, .int .i64 a0_2, .slice Ao10 y239.length co10, .int .i64 a0_4, .int .i64 a0_5, .int .i64 a0_6, .int .i64 a0_7, .int .i64 a0_8, .int .i64 a0_9, .int .i64 0, .string (⟨#[]⟩ : ByteArray), .string (⟨#[]⟩ : ByteArray)]) ?_ 10 _ rfl; (with_reducible repeat (first | refine blk_drewN ?_ _ | refine blk_drew ?_ | refine blk_alloc ?_ _)); refine blk_put (cs := #[.int .i64 a0_0, .int .i64 a0_1, .int .i64 a0_2, .slice Ao10 y239.length co10, .int .i64 a0_4, .int .i64 a0_5, .int .i64 a0_6, .int .i64 a0_7, .int .i64 a0_8, .int .i64 0, .int .i64 0, .string (⟨#[]⟩ : ByteArray), .string (⟨#[]⟩ : ByteArray)]) ?_ 9 _ rfl; (with_reducible repeat (first | refine blk_drewN ?_ _ | refine blk_drew ?_ | refine blk_alloc ?_ _)); refine blk_put (cs := #[.int .i64 a0_0, .int .i64 a0_1, .int .i64 a0_2, .slice Ao10 y239.length co10, .int .i64 a0_4, .int .i64 a0_5, .int .i64 a0_6, .int .i64 a0_7, .int .i64 0, .int .i64 0, .int .i64 0, .string (⟨#[]⟩ : ByteArray), .string (⟨#[]⟩ : ByteArray)]) ?_ 8 _ rfl; (with_reducible repeat (first | refine blk_drewN ?_ _ | refine blk_drew ?_ | refine blk_alloc ?_ _)); refine blk_put (cs := #[.int .i64 a0_0, .int .i64 a0_1, .int .i64 a0_2, .slice Ao10 y239.length co10, .int .i64 a0_4, .int .i64 a0_5, .int .i64 a0_6, .int .i64 0, .int .i64 0, .int .i64 0, .int .i64 0, .string (⟨#[]⟩ : ByteArray), .string (⟨#[]⟩ : ByteArray)]) ?_ 7 _ rfl; (with_reducible repeat (first | refine blk_drewN ?_ _ | refine blk_drew ?_ | refine blk_alloc ?_ _)); refine blk_put (cs := #[.int .i64 a0_0, .int .i64 a0_1, .int .i64 a0_2, .slice Ao10 y239.length co10, .int .i64 a0_4, .int .i64 a0_5, .int .i64 0, .int .i64 0, .int .i64 0, .int .i64 0, .int .i64 0, .string (⟨#[]⟩ : ByteArray), .string (⟨#[]⟩ : ByteArray)]) ?_ 6 _ rfl; (with_reducible repeat (first | refine blk_drewN ?_ _ | refine blk_drew ?_ | refine blk_alloc ?_ _)); refine blk_put (cs := #[.int .i64 a0_0, .int .i64 a0_1, .int .i64 a0_2, .slice Ao10 y239.length co10, .int .i64 a0_4, .int .i64 0, .int .i64 0, .int .i64 0, .int .i64 0, .int .i64 0, .int .i64 0, .string (⟨#[]⟩ : ByteArray), .string (⟨#[]⟩ : ByteArray)]) ?_ 5 _ rfl; (with_reducible repeat (first | refine blk_drewN ?_ _ | refine blk_drew ?_ | refine blk_alloc ?_ _)); refine blk_put (cs := #[.int .i64 a0_0, .int .i64 a0_1, .int .i64 a0_2, .slice Ao10 y239.length co10, .int .i64 0, .int .i64 0, .int .i64 0, .int .i64 0, .int .i64 0, .int .i64 0, .int .i64 0, .string (⟨#[]⟩ : ByteArray), .string (⟨#[]⟩ : ByteArray)]) ?_ 4 _ rfl; (with_reducible repeat (first | refine blk_drewN ?_ _ | refine blk_drew ?_ | refine blk_alloc ?_ _)); refine blk_put (cs := #[.int .i64 a0_0, .int .i64 a0_1, .int .i64 a0_2, .slice none 0 0, .int .i64 0, .int .i64 0, .int .i64 0, .int .i64 0, .int .i64 0, .int .i64 0, .int .i64 0, .string (⟨#[]⟩ : ByteArray), .string (⟨#[]⟩ : ByteArray)]) ?_ 3 _ rfl; (with_reducible repeat (first | refine blk_drewN ?_ _ | refine blk_drew ?_ | refine blk_alloc ?_ _)); refine blk_put (cs := #[.int .i64 a0_0, .int .i64 a0_1, .int .i64 0, .slice none 0 0, .int .i64 0, .int .i64 0, .int .i64 0, .int .i64 0, .int .i64 0, .int .i64 0, .int .i64 0, .string (⟨#[]⟩ : ByteArray), .string (⟨#[]⟩ : ByteArray)]) ?_ 2 _ rfl; (with_reducible repeat (first | refine blk_drewN ?_ _ | refine blk_drew ?_ | refine blk_alloc ?_ _)); refine blk_put (cs := #[.int .i64 a0_0, .int .i64 0, .int .i64 0, .slice none 0 0, .int .i64 0, .int .i64 0, .int .i64 0, .int .i64 0, .int .i64 0, .int .i64 0, .int .i64 0, .string (⟨#[]⟩ : ByteArray), .string (⟨#[]⟩ : ByteArray)]) ?_ 1 _ rfl; (with_reducible repeat (first | refine blk_drewN ?_ _ | refine blk_drew ?_ | refine blk_alloc ?_ _)); refine blk_put (cs := #[.int .i64 0, .int .i64 0, .int .i64 0, .slice none 0 0, .int .i64 0, .int .i64 0, .int .i64 0, .int .i64 0, .int .i64 0, .int .i64 0, .int .i64 0, .string (⟨#[]⟩ : ByteArray), .string (⟨#[]⟩ : ByteArray)]) ?_ 0 _ rfl; (with_reducible repeat (first | refine blk_drewN ?_ _ | refine blk_drew ?_ | refine blk_alloc ?_ _)); refine blk_far ?_ NB235_234.out _; (with_reducible repeat (first | refine blk_drewN ?_ _ | refine blk_drew ?_ | refine blk_alloc ?_ _)); exact BK235.out) Try.underlying32 rfl (by kernel_rfl)) rfl ?_
  exact ⟨_, by first | rfl | (simp [errW_none, errW_some] <;> rfl) | (simp [*, errW_none, errW_some] <;> rfl), by (with_reducible repeat (first | apply Kd.R_alloc | apply Kd.R_drewN | apply Kd.R_drew)); exact Kd.R_mono (Kd.R_far (p := ⟨gb235, 12, none⟩) (Kd.R_far (p := ⟨gb235, 11, none⟩) (Kd.R_far (p := ⟨gb235, 10, none⟩) (Kd.R_far (p := ⟨gb235, 9, none⟩) (Kd.R_far (p := ⟨gb235, 8, none⟩) (Kd.R_far (p := ⟨gb235, 7, none⟩) (Kd.R_far (p := ⟨gb235, 6, none⟩) (Kd.R_far (p := ⟨gb235, 5, none⟩) (Kd.R_far (p := ⟨gb235, 4, none⟩) (Kd.R_far (p := ⟨gb235, 3, none⟩) (Kd.R_far (p := ⟨gb235, 2, none⟩) (Kd.R_far (p := ⟨gb235, 1, none⟩) (Kd.R_far (p := ⟨gb235, 0, none⟩) (Kd.R_far (p := ⟨gb234, 3, none⟩) (Kd.R_types (Kd.R_types HO241.out BK234.out (by decide)) BK235.out (by decide)) (fun _ hk => hk.1.2) (.slice Ao10 y239.length co10)) (fun _ hk => hk.2) (.int .i64 a0_0)) (fun _ hk => hk.2) (.int .i64 a0_1)) (fun _ hk => hk.2) (.int .i64 a0_2)) (fun _ hk => hk.2) (.slice Ao10 y239.length co10)) (fun _ hk => hk.2) (.int .i64 a0_4)) (fun _ hk => hk.2) (.int .i64 a0_5)) (fun _ hk => hk.2) (.int .i64 a0_6)) (fun _ hk => hk.2) (.int .i64 a0_7)) (fun _ hk => hk.2) (.int .i64 a0_8)) (fun _ hk => hk.2) (.int .i64 a0_9)) (fun _ hk => hk.2) (.int .i64 a0_10)) (fun _ hk => hk.2) (.string a0_11)) (fun _ hk => hk.2) (.string a0_12)) (fun _ hk => trivial), by repeat (first | (with_reducible first | exact HB.out | apply below_alloc | apply pw_below_drewN | apply below_drew1 | refine below_set ?_ GE234.out | refine below_set ?_ GE235.out) | exact HB.out)⟩
 ·rw [if_neg c2] at H
  exact absurd H (by simp)
end Go.Proofs.Ytnopjjilpgekfaa.PCa
namespace Go.Proofs.Ytnopjjilpgekfaa.PCa
open Go.RowKit Go.Proofs.YtnopjjilpgekfaaW.PrintWords Go.Proofs.YtnopjjilpgekfaaW.PrintLast Go.Proofs.YtnopjjilpgekfaaW.PrintMore
attribute [local go_sem] max2_int min2_int max_two min_two max_three min_three max_four min_four   -- for this text's walks alone
set_option linter.unusedVariables false
set_option linter.unusedSimpArgs false
def topiaryref09_tick.f (k : Nat) (l0 : List Int) (a1_0 : Int) (a1_1 : Int) (a1_2 : Int) (l1_3 : List Int) (a1_4 : Int) (a1_5 : Int) (a1_6 : Int) (a1_7 : Int) (a1_8 : Int) (a1_9 : Int) (a1_10 : Int) (a1_11 : ByteArray) (a1_12 : ByteArray) : Option (List Int) := (topiaryref02_Tick.f k l0 a1_1).bind fun bt491 => (some bt491.1)
theorem topiaryref09_tick.mono : ∀ a0 a1 a2 a3 a4 a5 a6 a7 a8 a9 a10 a11 a12 a13 k, LeO (topiaryref09_tick.f k a0 a1 a2 a3 a4 a5 a6 a7 a8 a9 a10 a11 a12 a13) (topiaryref09_tick.f (k + 1) a0 a1 a2 a3 a4 a5 a6 a7 a8 a9 a10 a11 a12 a13) := by
 intro a0 a1 a2 a3 a4 a5 a6 a7 a8 a9 a10 a11 a12 a13 k
 unfold topiaryref09_tick.f
 repeat' first
   | (with_reducible exact topiaryref02_Tick.mono _ _ _)
   | (with_reducible exact LeO.refl _)
   | (with_reducible exact LeO.none _)
   | (with_reducible refine LeO.ite ?_ ?_)
   | (with_reducible refine LeO.bind ?_ (fun _ => ?_))
   | exact topiaryref02_Tick.mono _ _ _
   | exact LeO.none _
   | refine LeO.ite ?_ ?_
   | refine LeO.bind ?_ (fun _ => ?_)
end Go.Proofs.Ytnopjjilpgekfaa.PCa
namespace Go.Proofs.Ytnopjjilpgekfaa.PCa
open Go.RowKit Go.Proofs.YtnopjjilpgekfaaW.PrintWords Go.Proofs.YtnopjjilpgekfaaW.PrintLast Go.Proofs.YtnopjjilpgekfaaW.PrintMore
attribute [local go_sem] max2_int min2_int max_two min_two max_three min_three max_four min_four   -- for this text's walks alone
set_option linter.unusedVariables false
set_option linter.unusedSimpArgs false
mutual
def topiaryref09_Take.j0 : Nat → List Int → Bool → Int → List (S32) → Int → Int → Int → List Int → Int → Int → Int → Int → Int → Int → Int → ByteArray → ByteArray → Option (Int × (List (S32)) × (List (S32)) × Int)
 | 0, _, _, _, _, _, _, _, _, _, _, _, _, _, _, _, _, _ => none
 | k + 1, x1, x38, x517000, x517001, x518000, x518001, x518002, x518003, x518004, x518005, x518006, x518007, x518008, x518009, x518010, x518011, x518012 => if x38 = true then (some (x517000, x517001, ([] : List (S32)), 5)) else ((topiaryref09_Ripe.f k x1 x518000 x518001 x518002 x518003 x518004 x518005 x518006 x518007 x518008 x518009 x518010 x518011 x518012).bind fun t525 => (if t525 = true then ((topiaryref09_tick.f k x1 x518000 x518001 x518002 x518003 x518004 x518005 x518006 x518007 x518008 x518009 x518010 x518011 x518012).bind fun t547 => (topiaryref09_Take.l0 k (([(⟨(⟨x518000, x518001⟩ : S30), x518002, x518003, x518004, (⟨x518005, x518006⟩ : S30), (⟨x518007, x518008⟩ : S30), (⟨x518009, x518010⟩ : S30), x518011, x518012⟩ : S32)] : List (S32))) x517001 t547 x517000 x517001)) else (if (x517001.length : Int) ≥ x517000 then (some (x517000, x517001, ([] : List (S32)), 6)) else ((topiaryref05_Copy.f x518000 x518001 x518002 x518003 x518004 x518005 x518006 x518007 x518008 x518009 x518010 x518011 x518012).bind fun bt526 => ((topiaryref09_put.f k x517001 bt526.1 bt526.2.1 bt526.2.2.1 bt526.2.2.2.1 bt526.2.2.2.2.1 bt526.2.2.2.2.2.1 bt526.2.2.2.2.2.2.1 bt526.2.2.2.2.2.2.2.1 bt526.2.2.2.2.2.2.2.2.1 bt526.2.2.2.2.2.2.2.2.2.1 bt526.2.2.2.2.2.2.2.2.2.2.1 bt526.2.2.2.2.2.2.2.2.2.2.2.1 bt526.2.2.2.2.2.2.2.2.2.2.2.2).bind fun t541 => (some (x517000, t541, ([] : List (S32)), 0)))))))
def topiaryref09_Take.l0 : Nat → List (S32) → List (S32) → List Int → Int → List (S32) → Option (Int × (List (S32)) × (List (S32)) × Int)
 | 0, _, _, _, _, _ => none
 | k + 1, x9, x10, x11, x517000, x517001 => (topiaryref09_next.f k x11 x10).bind fun t550 => (if t550 ≥ 0 then ((topiaryref09_next.f k x11 x10).bind fun t551 => (if 0 ≤ t551 then (if t551 < (x10.length : Int) then (if x9.length < 1034834473200 then ((topiaryref09_tick.f k x11 ((rd_T32 x10 t551).f0.f0) ((rd_T32 x10 t551).f0.f1) ((rd_T32 x10 t551).f1) ((rd_T32 x10 t551).f2) ((rd_T32 x10 t551).f3) ((rd_T32 x10 t551).f4.f0) ((rd_T32 x10 t551).f4.f1) ((rd_T32 x10 t551).f5.f0) ((rd_T32 x10 t551).f5.f1) ((rd_T32 x10 t551).f6.f0) ((rd_T32 x10 t551).f6.f1) ((rd_T32 x10 t551).f7) ((rd_T32 x10 t551).f8)).bind fun t557 => ((topiaryref09_without.f x10 t551).bind fun t560 => (topiaryref09_Take.l0 k (x9 ++ [(⟨(⟨(rd_T32 x10 t551).f0.f0, (rd_T32 x10 t551).f0.f1⟩ : S30), (rd_T32 x10 t551).f1, (rd_T32 x10 t551).f2, (rd_T32 x10 t551).f3, (⟨(rd_T32 x10 t551).f4.f0, (rd_T32 x10 t551).f4.f1⟩ : S30), (⟨(rd_T32 x10 t551).f5.f0, (rd_T32 x10 t551).f5.f1⟩ : S30), (⟨(rd_T32 x10 t551).f6.f0, (rd_T32 x10 t551).f6.f1⟩ : S30), (rd_T32 x10 t551).f7, (rd_T32 x10 t551).f8⟩ : S32)]) t560 t557 x517000 x517001))) else (none)) else (none)) else (none))) else (some (x517000, x10, x9, 0)))
end
def topiaryref09_Take.f (k : Nat) (a0_0 : Int) (l0_1 : List (S32)) (l1 : List Int) (a2_0 : Int) (a2_1 : Int) (a2_2 : Int) (l2_3 : List Int) (a2_4 : Int) (a2_5 : Int) (a2_6 : Int) (a2_7 : Int) (a2_8 : Int) (a2_9 : Int) (a2_10 : Int) (a2_11 : ByteArray) (a2_12 : ByteArray) : Option (Int × (List (S32)) × (List (S32)) × Int) := (topiaryref02_Check.f k l1).bind fun t519 => (if t519 = 0 then ((topiaryref05_Check.f k a2_0 a2_1 a2_2 l2_3 a2_4 a2_5 a2_6 a2_7 a2_8 a2_9 a2_10 a2_11 a2_12).bind fun t521 => (if t521 = 0 then ((topiaryref07_Within.f a2_0 a2_1 a2_2 l2_3 a2_4 a2_5 a2_6 a2_7 a2_8 a2_9 a2_10 a2_11 a2_12 l1).bind fun t523 => (if t523 = true then (topiaryref09_Take.j0 k l1 true a0_0 l0_1 a2_0 a2_1 a2_2 l2_3 a2_4 a2_5 a2_6 a2_7 a2_8 a2_9 a2_10 a2_11 a2_12) else ((topiaryref07_Own.f k l0_1 a2_1 a2_2).bind fun t524 => (topiaryref09_Take.j0 k l1 (decide (t524 ≥ 0)) a0_0 l0_1 a2_0 a2_1 a2_2 l2_3 a2_4 a2_5 a2_6 a2_7 a2_8 a2_9 a2_10 a2_11 a2_12)))) else ((topiaryref05_Check.f k a2_0 a2_1 a2_2 l2_3 a2_4 a2_5 a2_6 a2_7 a2_8 a2_9 a2_10 a2_11 a2_12).bind fun t522 => (some (a0_0, l0_1, ([] : List (S32)), t522))))) else ((topiaryref02_Check.f k l1).bind fun t520 => (some (a0_0, l0_1, ([] : List (S32)), t520))))
theorem topiaryref09_Take.mono_l : ∀ k, (∀ y0 y1 y2 y3 y4 y5 y6 y7 y8 y9 y10 y11 y12 y13 y14 y15 y16, LeO (topiaryref09_Take.j0 k y0 y1 y2 y3 y4 y5 y6 y7 y8 y9 y10 y11 y12 y13 y14 y15 y16) (topiaryref09_Take.j0 (k + 1) y0 y1 y2 y3 y4 y5 y6 y7 y8 y9 y10 y11 y12 y13 y14 y15 y16)) ∧ (∀ y0 y1 y2 y3 y4, LeO (topiaryref09_Take.l0 k y0 y1 y2 y3 y4) (topiaryref09_Take.l0 (k + 1) y0 y1 y2 y3 y4))
 | 0 => ⟨fun _ _ _ _ _ _ _ _ _ _ _ _ _ _ _ _ _ r h => by simp [topiaryref09_Take.j0] at h, fun _ _ _ _ _ r h => by simp [topiaryref09_Take.l0] at h⟩
 | k + 1 => by
  obtain ⟨ih0, ih1⟩ := topiaryref09_Take.mono_l k
  refine ⟨?_, ?_⟩
  ·intro y0 y1 y2 y3 y4 y5 y6 y7 y8 y9 y10 y11 y12 y13 y14 y15 y16
   unfold topiaryref09_Take.j0
   repeat' first
   | (with_reducible exact ih0 _ _ _ _ _ _ _ _ _ _ _ _ _ _ _ _ _)
   | (with_reducible exact ih1 _ _ _ _ _)
   | (with_reducible exact topiaryref02_Check.mono _ _)
   | (with_reducible exact topiaryref05_Check.mono _ _ _ _ _ _ _ _ _ _ _ _ _ _)
   | (with_reducible exact topiaryref07_Own.mono _ _ _ _)
   | (with_reducible exact topiaryref09_Ripe.mono _ _ _ _ _ _ _ _ _ _ _ _ _ _ _)
   | (with_reducible exact topiaryref09_next.mono _ _ _)
   | (with_reducible exact topiaryref09_put.mono _ _ _ _ _ _ _ _ _ _ _ _ _ _ _)
   | (with_reducible exact topiaryref09_tick.mono _ _ _ _ _ _ _ _ _ _ _ _ _ _ _)
   | (with_reducible exact LeO.refl _)
   | (with_reducible exact LeO.none _)
   | (with_reducible refine LeO.ite ?_ ?_)
   | (with_reducible refine LeO.bind ?_ (fun _ => ?_))
   | exact ih0 _ _ _ _ _ _ _ _ _ _ _ _ _ _ _ _ _
   | exact ih1 _ _ _ _ _
   | exact topiaryref02_Check.mono _ _
   | exact topiaryref05_Check.mono _ _ _ _ _ _ _ _ _ _ _ _ _ _
   | exact topiaryref07_Own.mono _ _ _ _
   | exact topiaryref09_Ripe.mono _ _ _ _ _ _ _ _ _ _ _ _ _ _ _
   | exact topiaryref09_next.mono _ _ _
   | exact topiaryref09_put.mono _ _ _ _ _ _ _ _ _ _ _ _ _ _ _
   | exact topiaryref09_tick.mono _ _ _ _ _ _ _ _ _ _ _ _ _ _ _
   | exact LeO.none _
   | refine LeO.ite ?_ ?_
   | refine LeO.bind ?_ (fun _ => ?_)
  ·intro y0 y1 y2 y3 y4
   unfold topiaryref09_Take.l0
   repeat' first
   | (with_reducible exact ih0 _ _ _ _ _ _ _ _ _ _ _ _ _ _ _ _ _)
   | (with_reducible exact ih1 _ _ _ _ _)
   | (with_reducible exact topiaryref02_Check.mono _ _)
   | (with_reducible exact topiaryref05_Check.mono _ _ _ _ _ _ _ _ _ _ _ _ _ _)
   | (with_reducible exact topiaryref07_Own.mono _ _ _ _)
   | (with_reducible exact topiaryref09_Ripe.mono _ _ _ _ _ _ _ _ _ _ _ _ _ _ _)
   | (with_reducible exact topiaryref09_next.mono _ _ _)
   | (with_reducible exact topiaryref09_put.mono _ _ _ _ _ _ _ _ _ _ _ _ _ _ _)
   | (with_reducible exact topiaryref09_tick.mono _ _ _ _ _ _ _ _ _ _ _ _ _ _ _)
   | (with_reducible exact LeO.refl _)
   | (with_reducible exact LeO.none _)
   | (with_reducible refine LeO.ite ?_ ?_)
   | (with_reducible refine LeO.bind ?_ (fun _ => ?_))
   | exact ih0 _ _ _ _ _ _ _ _ _ _ _ _ _ _ _ _ _
   | exact ih1 _ _ _ _ _
   | exact topiaryref02_Check.mono _ _
   | exact topiaryref05_Check.mono _ _ _ _ _ _ _ _ _ _ _ _ _ _
   | exact topiaryref07_Own.mono _ _ _ _
   | exact topiaryref09_Ripe.mono _ _ _ _ _ _ _ _ _ _ _ _ _ _ _
   | exact topiaryref09_next.mono _ _ _
   | exact topiaryref09_put.mono _ _ _ _ _ _ _ _ _ _ _ _ _ _ _
   | exact topiaryref09_tick.mono _ _ _ _ _ _ _ _ _ _ _ _ _ _ _
   | exact LeO.none _
   | refine LeO.ite ?_ ?_
   | refine LeO.bind ?_ (fun _ => ?_)
theorem topiaryref09_Take.mono : ∀ a0 a1 a2 a3 a4 a5 a6 a7 a8 a9 a10 a11 a12 a13 a14 a15 k, LeO (topiaryref09_Take.f k a0 a1 a2 a3 a4 a5 a6 a7 a8 a9 a10 a11 a12 a13 a14 a15) (topiaryref09_Take.f (k + 1) a0 a1 a2 a3 a4 a5 a6 a7 a8 a9 a10 a11 a12 a13 a14 a15) := by
 intro a0 a1 a2 a3 a4 a5 a6 a7 a8 a9 a10 a11 a12 a13 a14 a15 k
 obtain ⟨ih0, ih1⟩ := topiaryref09_Take.mono_l k
 unfold topiaryref09_Take.f
 repeat' first
   | (with_reducible exact ih0 _ _ _ _ _ _ _ _ _ _ _ _ _ _ _ _ _)
   | (with_reducible exact ih1 _ _ _ _ _)
   | (with_reducible exact topiaryref02_Check.mono _ _)
   | (with_reducible exact topiaryref05_Check.mono _ _ _ _ _ _ _ _ _ _ _ _ _ _)
   | (with_reducible exact topiaryref07_Own.mono _ _ _ _)
   | (with_reducible exact topiaryref09_Ripe.mono _ _ _ _ _ _ _ _ _ _ _ _ _ _ _)
   | (with_reducible exact topiaryref09_next.mono _ _ _)
   | (with_reducible exact topiaryref09_put.mono _ _ _ _ _ _ _ _ _ _ _ _ _ _ _)
   | (with_reducible exact topiaryref09_tick.mono _ _ _ _ _ _ _ _ _ _ _ _ _ _ _)
   | (with_reducible exact LeO.refl _)
   | (with_reducible exact LeO.none _)
   | (with_reducible refine LeO.ite ?_ ?_)
   | (with_reducible refine LeO.bind ?_ (fun _ => ?_))
   | exact ih0 _ _ _ _ _ _ _ _ _ _ _ _ _ _ _ _ _
   | exact ih1 _ _ _ _ _
   | exact topiaryref02_Check.mono _ _
   | exact topiaryref05_Check.mono _ _ _ _ _ _ _ _ _ _ _ _ _ _
   | exact topiaryref07_Own.mono _ _ _ _
   | exact topiaryref09_Ripe.mono _ _ _ _ _ _ _ _ _ _ _ _ _ _ _
   | exact topiaryref09_next.mono _ _ _
   | exact topiaryref09_put.mono _ _ _ _ _ _ _ _ _ _ _ _ _ _ _
   | exact topiaryref09_tick.mono _ _ _ _ _ _ _ _ _ _ _ _ _ _ _
   | exact LeO.none _
   | refine LeO.ite ?_ ?_
   | refine LeO.bind ?_ (fun _ => ?_)
end Go.Proofs.Ytnopjjilpgekfaa.PCa
namespace Go.Proofs.Ytnopjjilpgekfaa.PCa
open Go.RowKit Go.Proofs.YtnopjjilpgekfaaW.PrintWords Go.Proofs.YtnopjjilpgekfaaW.PrintLast Go.Proofs.YtnopjjilpgekfaaW.PrintMore
set_option linter.unusedVariables false
set_option linter.unusedSimpArgs false
/-- What is held is right, and in order. -/
structure Good (l : List S32) : Prop where
 ok : ∀ y ∈ l, checkX y = 0
 ord : l.Pairwise (fun a b => befX a b = true)
theorem bef_iff (a b : S32) : befX a b = true ↔ a.f0.f0 < b.f0.f0 ∨ (a.f0.f0 = b.f0.f0 ∧ (a.f0.f1 < b.f0.f1 ∨ (a.f0.f1 = b.f0.f1 ∧ a.f1 < b.f1))) := by
 unfold befX lessC
 simp only [Bool.or_eq_true, Bool.and_eq_true, decide_eq_true_eq, beq_iff_eq]
 omega
theorem bef_trans {a b c : S32} (h1 : befX a b = true) (h2 : befX b c = true) : befX a c = true := by
 rw [bef_iff] at *
 omega
theorem bef_asymm {a b : S32} (h1 : befX a b = true) : befX b a = false := by
 rw [Bool.eq_false_iff]
 intro h2
 rw [bef_iff] at *
 omega
theorem bef_total {a b : S32} (h : befX a b = false) (hk : keyOf a ≠ keyOf b) : befX b a = true := by
 have h' : ¬ (befX a b = true) := by rw [h]; decide
 rw [bef_iff] at h' ⊢
 have : ¬ (a.f0.f1 = b.f0.f1 ∧ a.f1 = b.f1) := fun e => hk (by unfold keyOf; rw [e.1, e.2])
 omega
theorem Good.nil : Good [] := ⟨(fun _ h => nomatch h), List.Pairwise.nil⟩
theorem Good.filter {l : List S32} (h : Good l) (p : S32 → Bool) : Good (l.filter p) := ⟨fun y hy => h.ok y (List.mem_filter.1 hy).1, h.ord.sublist List.filter_sublist⟩
theorem Good.len {l : List S32} (h : Good l) : ∀ y ∈ l, y.f2.length ≤ 64 := fun y hy => (check_ok (h.ok y hy)).2.2.2.2.2
theorem Good.seq {l : List S32} (h : Good l) : ∀ y ∈ l, 0 ≤ y.f1 ∧ y.f1 ≤ 1099511627776 := fun y hy => by
 have := check_ok (h.ok y hy)
 omega
theorem Good.mono {l : List S32} (h : Good l) (x : S32) : ∀ a b, a ≤ b → b < l.length → cmpX (rd_T32 l (b : Nat)) x < 0 → cmpX (rd_T32 l (a : Nat)) x < 0 := fun a b hab hb hc => by
 rcases Nat.lt_or_eq_of_le hab with hlt | rfl
 ·have h1 := List.pairwise_iff_getElem.1 h.ord a b (by omega) hb hlt
  have ea : l[a]'(by omega) = rd_T32 l (a : Nat) := by
   have := rd32_at (l := l) (j := a) (by omega)
   rw [List.getElem?_eq_getElem (by omega)] at this
   exact Option.some.inj this
  have eb : l[b] = rd_T32 l (b : Nat) := by
   have := rd32_at hb
   rw [List.getElem?_eq_getElem hb] at this
   exact Option.some.inj this
  rw [ea, eb] at h1
  rw [cmp_neg] at hc ⊢
  exact bef_trans h1 hc
 ·exact hc
/-- Those ahead of x are the first ones. -/
theorem Good.split {l : List S32} (h : Good l) (x : S32) : (∀ y ∈ l.take (cntX x l), befX y x = true) ∧ ∀ y ∈ l.drop (cntX x l), befX y x = false := by
 induction l with
 | nil => exact ⟨fun _ h => (by simp at h), fun _ h => (by simp at h)⟩
 | cons a t ih =>
  have ht : Good t := ⟨fun y hy => h.ok y (List.mem_cons_of_mem _ hy), (List.pairwise_cons.1 h.ord).2⟩
  obtain ⟨i1, i2⟩ := ih ht
  by_cases ha : befX a x = true
  ·have hc : cntX x (a :: t) = cntX x t + 1 := by
    unfold cntX
    rw [List.countP_cons_of_pos (by rw [decide_eq_true_eq, cmp_neg]; exact ha)]
   rw [hc]
   refine ⟨fun y hy => ?_, fun y hy => i2 y (by simpa using hy)⟩
   rw [List.take_succ_cons] at hy
   rcases List.mem_cons.1 hy with rfl | hy
   ·exact ha
   ·exact i1 y hy
  ·have hall : ∀ y ∈ t, befX y x = false := fun y hy => by
    rw [Bool.eq_false_iff]
    intro hb
    exact ha (bef_trans ((List.pairwise_cons.1 h.ord).1 y hy) hb)
   have hc : cntX x (a :: t) = 0 := by
    unfold cntX
    rw [List.countP_eq_zero]
    intro y hy
    rw [decide_eq_true_eq, cmp_neg]
    rcases List.mem_cons.1 hy with rfl | hy
    ·exact ha
    ·rw [hall y hy]; decide
   rw [hc]
   refine ⟨fun y hy => (by simp at hy), fun y hy => ?_⟩
   rcases List.mem_cons.1 (by simpa using hy) with rfl | hy
   ·simpa using ha
   ·exact hall y hy
theorem putC_at (x : S32) : ∀ (l1 l2 : List S32), (∀ y ∈ l1, befX x y = false) → (∀ y ∈ l2, befX x y = true) → putC x (l1 ++ l2) = l1 ++ x :: l2
 | [], [], _, _ => rfl
 | [], y :: t, _, h2 => by
  rw [List.nil_append, putC, if_pos (h2 y List.mem_cons_self)]
  rfl
 | a :: l1, l2, h1, h2 => by
  rw [List.cons_append, putC, if_neg (by rw [h1 a List.mem_cons_self]; decide), putC_at x l1 l2 (fun y hy => h1 y (List.mem_cons_of_mem _ hy)) h2]
  rfl
theorem ownX_no {l : List S32} {x : S32} (h : ownX l x = false) : ∀ y ∈ l, keyOf y ≠ keyOf x := fun y hy e => of_decide_eq_false h (e ▸ List.mem_map_of_mem hy)
theorem Good.put {l : List S32} (h : Good l) {x : S32} (ho : ownX l x = false) : putC x l = l.take (cntX x l) ++ x :: l.drop (cntX x l) := by
 obtain ⟨h1, h2⟩ := h.split x
 have := putC_at x (l.take (cntX x l)) (l.drop (cntX x l)) (fun y hy => bef_asymm (h1 y hy)) (fun y hy => bef_total (h2 y hy) (ownX_no ho y (List.mem_of_mem_drop hy)))
 rwa [List.take_append_drop] at this
theorem Good.more {l : List S32} (h : Good l) {x : S32} (hx : checkX x = 0) (ho : ownX l x = false) : Good (l.take (cntX x l) ++ x :: l.drop (cntX x l)) := by
 obtain ⟨h1, h2⟩ := h.split x
 refine ⟨fun y hy => ?_, ?_⟩
 ·rcases List.mem_append.1 hy with hy | hy
  ·exact h.ok y (List.mem_of_mem_take hy)
  ·rcases List.mem_cons.1 hy with rfl | hy
   ·exact hx
   ·exact h.ok y (List.mem_of_mem_drop hy)
 ·have ht := h.ord.sublist (List.take_sublist (cntX x l) l)
  have hd := h.ord.sublist (List.drop_sublist (cntX x l) l)
  refine List.pairwise_append.2 ⟨ht, List.pairwise_cons.2 ⟨fun y hy => bef_total (h2 y hy) (ownX_no ho y (List.mem_of_mem_drop hy)), hd⟩, fun a ha b hb => ?_⟩
  rcases List.mem_cons.1 hb with rfl | hb
  ·exact h1 a ha
  ·have := h.ord
   rw [← List.take_append_drop (cntX x l) l] at this
   exact (List.pairwise_append.1 this).2.2 a ha b hb
/-- Take of the program. -/
theorem take13_calls {w : World} {base : Nat} {P : Nat → Prop} {g : Nat} {room : Int} {l : List S32} (hB : BufI w base P g room l) (hG : Good l) (hroom : (l.length : Int) ≤ room) (hr2 : room ≤ 256) (A0 : Option Addr) (c0 : Nat) (known : List Int) (hk : Kd.C (Kd.int .i64) w A0 known.length known) (hkc : known.length ≤ c0)
  (x : S32) (A3 : Option Addr) (c3 : Nat) {X : Nat → Prop} (hxF : Kd.F (Kd.int .i64) w X A3 x.f2.length x.f2) (hXP : ∀ k, X k → ¬ P k) (hx3 : x.f2.length ≤ c3) (hs : x.f7.size < 4611686018427387904) :
  Calls Try.prog 13 #[.pointer (some ⟨g, 0, none⟩), .slice A0 known.length c0, .agg (chA x (.slice A3 x.f2.length c3))] w (TakeB w base P g room (takeF room l known x)) := by
 have hn : l.length < 1000 := by omega
 unfold takeF
 by_cases c1 : chkC known = 0
 ·rw [if_pos c1]
  by_cases c2 : checkX x = 0
  ·rw [if_pos c2]
   cases hw : withinX known x with
   | true =>
    rw [Bool.true_or, if_pos rfl]
    exact take_within hB A0 c0 known hk hkc x A3 c3 (Kd.F_now hxF) hx3 hs c1 c2 hw
   | false =>
    rw [Bool.false_or]
    cases ho : ownX l x with
    | true =>
     rw [if_pos rfl]
     exact take_own hB A0 c0 known hk hkc x A3 c3 (Kd.F_now hxF) hx3 hs c1 c2 hw ho
    | false =>
     rw [if_neg (by decide)]
     cases hr : ripeC known x with
     | true =>
      rw [if_pos rfl]
      exact take_ripe hB A0 c0 known hk hkc x A3 c3 (Kd.F_now hxF) hx3 hs c1 c2 hw ho hr hn hG.len
     | false =>
      rw [if_neg (by decide)]
      by_cases hf : room ≤ l.length
      ·rw [if_pos hf]
       exact take_full hB A0 c0 known hk hkc x A3 c3 (Kd.F_now hxF) hx3 hs c1 c2 hw ho hr hf
      ·rw [if_neg hf]
       exact take_put hB A0 c0 known hk hkc x A3 c3 (Kd.F_now hxF) hx3 hs c1 c2 hw ho hr hf hn hG.seq (hG.mono x) hxF hXP
  ·rw [if_neg c2]
   exact take_bad hB A0 c0 known hk hkc x A3 c3 (Kd.F_now hxF) hx3 hs c1 c2 _
 ·rw [if_neg c1]
  exact take_chk hB A0 c0 known hk hkc x A3 c3 (Kd.F_now hxF) hx3 c1 _
end Go.Proofs.Ytnopjjilpgekfaa.PCa
namespace Go.Proofs.Ytnopjjilpgekfaa.PCa
open Go.RowKit Go.Proofs.YtnopjjilpgekfaaW.PrintWords Go.Proofs.YtnopjjilpgekfaaW.PrintLast Go.Proofs.YtnopjjilpgekfaaW.PrintMore
attribute [local go_sem] max2_int min2_int max_two min_two max_three min_three max_four min_four   -- for this text's walks alone
set_option linter.unusedVariables false
set_option linter.unusedSimpArgs false
def topiarylaw09_second.f  : Option (Int × Int × Int × List Int × Int × Int × Int × Int × Int × Int × Int × ByteArray × ByteArray) := some (2, 1, 1, (([1] : List Int)), 5, 1, 0, 0, 0, 0, 0, (⟨#[]⟩ : ByteArray), (⟨#[97]⟩ : ByteArray))
set_option maxHeartbeats 8000000 in
set_option maxRecDepth 100000 in
theorem topiarylaw09_second.calls  (r1 : Int) (r2 : Int) (r3 : Int) (r4 : List Int) (r5 : Int) (r6 : Int) (r7 : Int) (r8 : Int) (r9 : Int) (r10 : Int) (r11 : Int) (r12 : ByteArray) (r13 : ByteArray) (w : World) (h : topiarylaw09_second.f  = some (r1, r2, r3, r4, r5, r6, r7, r8, r9, r10, r11, r12, r13)) :
  Calls Try.prog 28 #[] w fun e w' => ∃ v3_ : Value, e = .returned (.agg #[.int .i64 r1, .int .i64 r2, .int .i64 r3, v3_, .int .i64 r5, .int .i64 r6, .int .i64 r7, .int .i64 r8, .int .i64 r9, .int .i64 r10, .int .i64 r11, .string r12, .string r13]) ∧ Kd.R (Kd.int .i64) 3 w' w.heap.size (fun _ => True) v3_ r4 ∧ Below w.heap.size w w' := by
 have hu32 := Try.underlying32
 have hu30 := Try.underlying30
 have HB := Aside0.mk (Below.refl w.heap.size w)
 have H : (some (2, 1, 1, (([1] : List Int)), 5, 1, 0, 0, 0, 0, 0, (⟨#[]⟩ : ByteArray), (⟨#[97]⟩ : ByteArray))) = some (r1, r2, r3, r4, r5, r6, r7, r8, r9, r10, r11, r12, r13) := h
 clear h
 obtain ⟨y410, hy410⟩ : ∃ y_ : List Int, y_ = (([1] : List Int)) := ⟨_, rfl⟩
 replace H : (some (2, 1, 1, y410, 5, 1, 0, 0, 0, 0, 0, (⟨#[]⟩ : ByteArray), (⟨#[97]⟩ : ByteArray))) = some (r1, r2, r3, r4, r5, r6, r7, r8, r9, r10, r11, r12, r13) := by first | (rw [hy410]; with_reducible exact H) | (have H2_ := (Option.bind_some _ _).symm.trans H; rw [hy410]; with_reducible exact H2_) | (have H2_ := (Option.bind_some _ _).symm.trans H; with_reducible exact H2_) | with_reducible exact H | (rw [hy410]; exact H) | exact H
 have Ny410 := Aside0.mk hy410
 clear hy410
 simp only [Option.some.injEq, Prod.mk.injEq] at H
 obtain ⟨rfl, rfl, rfl, rfl, rfl, rfl, rfl, rfl, rfl, rfl, rfl, rfl, rfl⟩ := H
 go_enter Try.func28, Try.ntmps28
 go_wp2_with (first | ((with_reducible refine gate_dst (N := 0) rfl ?_); refine box_event ?hg (N := 0) ?hd (cs := #[.int .i64 0, .int .i64 0, .int .i64 0, .slice none 0 0, .int .i64 0, .int .i64 0, .int .i64 0, .int .i64 0, .int .i64 0, .int .i64 0, .int .i64 0, .string (⟨#[]⟩ : ByteArray), .string (⟨#[]⟩ : ByteArray)]) (t := 32) ?hr ?_; (case hd => rfl); (case hg => rfl); (case hr => first | (go_simp; done) | (go_simp; rfl)); intro gb409 hg w1 hbox hb; have n0_ := Aside0.mk (below_step (by repeat (first | (with_reducible first | exact HB.out | apply below_alloc | apply pw_below_drewN | apply below_drew1) | exact HB.out)) hb); have n1_ := Aside0.mk (hbox); have n2_ := Aside0.mk ((by rw [hg]; exact (below_size (by repeat (first | (with_reducible first | exact HB.out | apply below_alloc | apply pw_below_drewN | apply below_drew1) | exact HB.out))) : w.heap.size ≤ gb409)); have n3_ := Aside0.mk ((by rw [hg]; exact (below_size (by repeat (first | (with_reducible first | exact HB.out | apply below_alloc | apply pw_below_drewN | apply below_drew1) | exact HB.out))) : w.heap.size ≤ gb409)); clear HB; have HB := n0_; have BK409 := n1_; have GW409 := n2_; have GE409 := n3_; clear n0_ n1_ n2_ n3_; clear hb hbox hg) | ((with_reducible refine gate_dst (N := 2) rfl ?_); refine Kd.R_lit (Kd.int .i64) _ 3 ?hg (N := 2) ?hd (xs := ([1] : List Int)) (inner := [.int .i64 1]) (ok := fun _ => True) (okp := fun _ => True) ?hr ?hp (fun _ hk => hk) trivial (Below.refl _ _) (Nat.le_refl _) (by simp) ?_; (case hd => rfl); (case hg => rfl); (case hr => first | (go_simp; done) | (go_simp; rfl)); (case hp => exact (Reps.one (show Kd.M (Kd.int .i64) _ _ _ 1 [.int .i64 1] from rfl) (Reps.none _ _))); intro v411 w2 ho3 hb hg_ hnew_; clear hg_ hnew_; (first | rw [← Ny410.out] at ho3 | (simp only [Int.reduceToNat] at ho3; rw [← Ny410.out] at ho3)); have n0_ := Aside0.mk (Kd.R_lower ho3 (below_size (by repeat (first | (with_reducible first | exact HB.out | apply below_alloc | apply pw_below_drewN | apply below_drew1 | refine below_set ?_ GE409.out) | exact HB.out)))); have n1_ := Aside0.mk (blk_below (g := gb409) (o := .cells #[.int .i64 0, .int .i64 0, .int .i64 0, .slice none 0 0, .int .i64 0, .int .i64 0, .int .i64 0, .int .i64 0, .int .i64 0, .int .i64 0, .int .i64 0, .string (⟨#[]⟩ : ByteArray), .string (⟨#[]⟩ : ByteArray)] 32 (0, 0)) (by (with_reducible repeat (first | refine blk_drewN ?_ _ | refine blk_drew ?_ | refine blk_alloc ?_ _)); exact BK409.out) hb); have n2_ := Aside0.mk (below_step (by repeat (first | (with_reducible first | exact HB.out | apply below_alloc | apply pw_below_drewN | apply below_drew1 | refine below_set ?_ GE409.out) | exact HB.out)) hb); clear BK409; clear HB; have HO412 := n0_; have BK409 := n1_; have HB := n2_; clear n0_ n1_ n2_; clear hb ho3; obtain ⟨Ao4, co4, eo4⟩ := Kd.R_slice HO412.out; subst eo4; obtain ⟨hcz5_0, hcz5_1, hcz5_2, hcz5_3, hcz5_4, hcz5_5, hcz5_6, hcz5_7, hcz5_8, hcz5_9, hcz5_10, hcz5_11, hcz5_12⟩ := cells13 BK409.out; obtain ⟨hfz5_0, hfz5_1, hfz5_2, hfz5_3, hfz5_4, hfz5_5, hfz5_6, hfz5_7, hfz5_8, hfz5_9, hfz5_10, hfz5_11, hfz5_12⟩ := froz13 BK409.out))
 refine bodyPost_ret (results_cell_row rfl _ _ gb409 32 #[.int .i64 2, .int .i64 1, .int .i64 1, .slice Ao4 y410.length co4, .int .i64 5, .int .i64 1, .int .i64 0, .int .i64 0, .int .i64 0, .int .i64 0, .int .i64 0, .string (⟨#[]⟩ : ByteArray), .string (⟨#[97]⟩ : ByteArray)] (0, 0) _ rfl (by (with_reducible repeat (first | refine blk_drewN ?_ _ | refine blk_drew ?_ | refine blk_alloc ?_ _)); refine blk_put (cs := #[.int .i64 2, .int .i64 1, .int .i64 1, .slice Ao4 y410.length co4, .int .i64 5, .int .i64 1, .int .i64 0, .int .i64 0, .int .i64 0, .int .i64 0, .int .i64 0, .string (⟨#[]⟩ : ByteArray), .string (⟨#[]⟩ : ByteArray)]) ?_ 12 _ rfl; (with_reducible repeat (first | refine blk_drewN ?_ _ | refine blk_drew ?_ | refine blk_alloc ?_ _)); refine blk_put (cs := #[.int .i64 2, .int .i64 1, .int .i64 1, .slice Ao4 y410.length co4, .int .i64 5, .int .i64 1, .int .i64 0, .int .i64 0, .int .i64 0, .int .i64 0, .int .i64 0, .string (⟨#[]⟩ : ByteArray), .string (⟨#[]⟩ : ByteArray)]) ?_ 11 _ rfl; (with_reducible repeat (first | refine blk_drewN ?_ _ | refine blk_drew ?_ | refine blk_alloc ?_ _)); refine blk_put (cs := #[.int .i64 2, .int .i64 1, .int .i64 1, .slice Ao4 y410.length co4, .int .i64 5, .int .i64 1, .int .i64 0, .int .i64 0, .int .i64 0, .int .i64 0, .int .i64 0, .string (⟨#[]⟩ : ByteArray), .string (⟨#[]⟩ : ByteArray)]) ?_ 10 _ rfl; (with_reducible repeat (first | refine blk_drewN ?_ _ | refine blk_drew ?_ | refine blk_alloc ?_ _)); refine blk_put (cs := #[.int .i64 2, .int .i64 1, .int .i64 1, .slice Ao4 y410.length co4, .int .i64 5, .int .i64 1, .int .i64 0, .int .i64 0, .int .i64 0, .int .i64 0, .int .i64 0, .string (⟨#[]⟩ : ByteArray), .string (⟨#[]⟩ : ByteArray)]) ?_ 9 _ rfl; (with_reducible repeat (first | refine blk_drewN ?_ _ | refine blk_drew ?_ | refine blk_alloc ?_ _)); refine blk_put (cs := #[.int .i64 2, .int .i64 1, .int .i64 1, .slice Ao4 y410.length co4, .int .i64 5, .int .i64 1, .int .i64 0, .int .i64 0, .int .i64 0, .int .i64 0, .int .i64 0, .string (⟨#[]⟩ : ByteArray), .string (⟨#[]⟩ : ByteArray)]) ?_ 8 _ rfl; (with_reducible repeat (first | refine blk_drewN ?_ _ | refine blk_drew ?_ | refine blk_alloc ?_ _)); refine blk_put (cs := #[.int .i64 2, .int .i64 1, .int .i64 1, .slice Ao4 y410.length co4, .int .i64 5, .int .i64 1, .int .i64 0, .int .i64 0, .int .i64 0, .int .i64 0, .int .i64 0, .string (⟨#[]⟩ : ByteArray), .string (⟨#[]⟩ : ByteArray)]) ?_ 7 _ rfl; (with_reducible repeat (first | refine blk_drewN ?_ _ | refine blk_drew ?_ | refine blk_alloc ?_ _)); refine blk_put (cs := #[.int .i64 2, .int .i64 1, .int .i64 1, .slice Ao4 y410.length co4, .int .i64 5, .int .i64 1, .int .i64 0, .int .i64 0, .int .i64 0, .int .i64 0, .int .i64 0, .string (⟨#[]⟩ : ByteArray), .string (⟨#[]⟩ : ByteArray)]) ?_ 6 _ rfl; (with_reducible repeat (first | refine blk_drewN ?_ _ | refine blk_drew ?_ | refine blk_alloc ?_ _)); refine blk_put (cs := #[.int .i64 2, .int .i64 1, .int .i64 1, .slice Ao4 y410.length co4, .int .i64 5, .int .i64 0, .int .i64 0, .int .i64 0, .int .i64 0, .int .i64 0, .int .i64 0, .string (⟨#[]⟩ : ByteArray), .string (⟨#[]⟩ : ByteArray)]) ?_ 5 _ rfl; (with_reducible repeat (first | refine blk_drewN ?_ _ | refine blk_drew ?_ | refine blk_alloc ?_ _)); refine blk_put (cs := #[.int .i64 2, .int .i64 1, .int .i64 1, .slice Ao4 y410.length co4, .int .i64 0, .int .i64 0, .int .i64 0, .int .i64 0, .int .i64 0, .int .i64 0, .int .i64 0, .string (⟨#[]⟩ : ByteArray), .string (⟨#[]⟩ : ByteArray)]) ?_ 4 _ rfl; (with_reducible repeat (first | refine blk_drewN ?_ _ | refine blk_drew ?_ | refine blk_alloc ?_ _)); refine blk_put (cs := #[.int .i64 2, .int .i64 1, .int .i64 1, .slice none 0 0, .int .i64 0, .int .i64 0, .int .i64 0, .int .i64 0, .int .i64 0, .int .i64 0, .int .i64 0, .string (⟨#[]⟩ : ByteArray), .string (⟨#[]⟩ : ByteArray)]) ?_ 3 _ rfl; (with_reducible repeat (first | refine blk_drewN ?_ _ | refine blk_drew ?_ | refine blk_alloc ?_ _)); refine blk_put (cs := #[.int .i64 2, .int .i64 1, .int .i64 0, .slice none 0 0, .int .i64 0, .int .i64 0, .int .i64 0, .int .i64 0, .int .i64 0, .int .i64 0, .int .i64 0, .string (⟨#[]⟩ : ByteArray), .string (⟨#[]⟩ : ByteArray)]) ?_ 2 _ rfl; (with_reducible repeat (first | refine blk_drewN ?_ _ | refine blk_drew ?_ | refine blk_alloc ?_ _)); refine blk_put (cs := #[.int .i64 2, .int .i64 0, .int .i64 0, .slice none 0 0, .int .i64 0, .int .i64 0, .int .i64 0, .int .i64 0, .int .i64 0, .int .i64 0, .int .i64 0, .string (⟨#[]⟩ : ByteArray), .string (⟨#[]⟩ : ByteArray)]) ?_ 1 _ rfl; (with_reducible repeat (first | refine blk_drewN ?_ _ | refine blk_drew ?_ | refine blk_alloc ?_ _)); refine blk_put (cs := #[.int .i64 0, .int .i64 0, .int .i64 0, .slice none 0 0, .int .i64 0, .int .i64 0, .int .i64 0, .int .i64 0, .int .i64 0, .int .i64 0, .int .i64 0, .string (⟨#[]⟩ : ByteArray), .string (⟨#[]⟩ : ByteArray)]) ?_ 0 _ rfl; (with_reducible repeat (first | refine blk_drewN ?_ _ | refine blk_drew ?_ | refine blk_alloc ?_ _)); exact BK409.out) Try.underlying32 rfl (by kernel_rfl)) rfl ?_
 exact ⟨_, by first | rfl | (simp [errW_none, errW_some] <;> rfl) | (simp [*, errW_none, errW_some] <;> rfl), by (with_reducible repeat (first | apply Kd.R_alloc | apply Kd.R_drewN | apply Kd.R_drew)); exact Kd.R_mono (Kd.R_far (p := ⟨gb409, 12, none⟩) (Kd.R_far (p := ⟨gb409, 11, none⟩) (Kd.R_far (p := ⟨gb409, 10, none⟩) (Kd.R_far (p := ⟨gb409, 9, none⟩) (Kd.R_far (p := ⟨gb409, 8, none⟩) (Kd.R_far (p := ⟨gb409, 7, none⟩) (Kd.R_far (p := ⟨gb409, 6, none⟩) (Kd.R_far (p := ⟨gb409, 5, none⟩) (Kd.R_far (p := ⟨gb409, 4, none⟩) (Kd.R_far (p := ⟨gb409, 3, none⟩) (Kd.R_far (p := ⟨gb409, 2, none⟩) (Kd.R_far (p := ⟨gb409, 1, none⟩) (Kd.R_far (p := ⟨gb409, 0, none⟩) (Kd.R_types HO412.out BK409.out (by decide)) (fun _ hk => hk.2) (.int .i64 2)) (fun _ hk => hk.2) (.int .i64 1)) (fun _ hk => hk.2) (.int .i64 1)) (fun _ hk => hk.2) (.slice Ao4 y410.length co4)) (fun _ hk => hk.2) (.int .i64 5)) (fun _ hk => hk.2) (.int .i64 1)) (fun _ hk => hk.2) (.int .i64 0)) (fun _ hk => hk.2) (.int .i64 0)) (fun _ hk => hk.2) (.int .i64 0)) (fun _ hk => hk.2) (.int .i64 0)) (fun _ hk => hk.2) (.int .i64 0)) (fun _ hk => hk.2) (.string (⟨#[]⟩ : ByteArray))) (fun _ hk => hk.2) (.string (⟨#[97]⟩ : ByteArray))) (fun _ hk => trivial), by repeat (first | (with_reducible first | exact HB.out | apply below_alloc | apply pw_below_drewN | apply below_drew1 | refine below_set ?_ GE409.out) | exact HB.out)⟩
end Go.Proofs.Ytnopjjilpgekfaa.PCa
namespace Go.Proofs.Ytnopjjilpgekfaa.PCa
open Go.RowKit Go.Proofs.YtnopjjilpgekfaaW.PrintWords Go.Proofs.YtnopjjilpgekfaaW.PrintLast Go.Proofs.YtnopjjilpgekfaaW.PrintMore
attribute [local go_sem] max2_int min2_int max_two min_two max_three min_three max_four min_four   -- for this text's walks alone
set_option linter.unusedVariables false
set_option linter.unusedSimpArgs false
def topiarylaw09_first.f  : Option (Int × Int × Int × List Int × Int × Int × Int × Int × Int × Int × Int × ByteArray × ByteArray) := some (1, 0, 1, ([] : List Int), 1, 1, 0, 0, 0, 0, 0, (⟨#[112]⟩ : ByteArray), (⟨#[]⟩ : ByteArray))
set_option maxHeartbeats 8000000 in
set_option maxRecDepth 100000 in
theorem topiarylaw09_first.calls  (r1 : Int) (r2 : Int) (r3 : Int) (r4 : List Int) (r5 : Int) (r6 : Int) (r7 : Int) (r8 : Int) (r9 : Int) (r10 : Int) (r11 : Int) (r12 : ByteArray) (r13 : ByteArray) (w : World) (h : topiarylaw09_first.f  = some (r1, r2, r3, r4, r5, r6, r7, r8, r9, r10, r11, r12, r13)) :
  Calls Try.prog 29 #[] w fun e w' => ∃ v3_ : Value, e = .returned (.agg #[.int .i64 r1, .int .i64 r2, .int .i64 r3, v3_, .int .i64 r5, .int .i64 r6, .int .i64 r7, .int .i64 r8, .int .i64 r9, .int .i64 r10, .int .i64 r11, .string r12, .string r13]) ∧ Kd.R (Kd.int .i64) 3 w' w.heap.size (fun _ => True) v3_ r4 ∧ Below w.heap.size w w' := by
 have hu32 := Try.underlying32
 have hu30 := Try.underlying30
 have HB := Aside0.mk (Below.refl w.heap.size w)
 have H : (some (1, 0, 1, ([] : List Int), 1, 1, 0, 0, 0, 0, 0, (⟨#[112]⟩ : ByteArray), (⟨#[]⟩ : ByteArray))) = some (r1, r2, r3, r4, r5, r6, r7, r8, r9, r10, r11, r12, r13) := h
 clear h
 simp only [Option.some.injEq, Prod.mk.injEq] at H
 obtain ⟨rfl, rfl, rfl, rfl, rfl, rfl, rfl, rfl, rfl, rfl, rfl, rfl, rfl⟩ := H
 go_enter Try.func29, Try.ntmps29
 go_wp2_with (first | ((with_reducible refine gate_dst (N := 0) rfl ?_); refine box_event ?hg (N := 0) ?hd (cs := #[.int .i64 0, .int .i64 0, .int .i64 0, .slice none 0 0, .int .i64 0, .int .i64 0, .int .i64 0, .int .i64 0, .int .i64 0, .int .i64 0, .int .i64 0, .string (⟨#[]⟩ : ByteArray), .string (⟨#[]⟩ : ByteArray)]) (t := 32) ?hr ?_; (case hd => rfl); (case hg => rfl); (case hr => first | (go_simp; done) | (go_simp; rfl)); intro gb413 hg w1 hbox hb; have n0_ := Aside0.mk (below_step (by repeat (first | (with_reducible first | exact HB.out | apply below_alloc | apply pw_below_drewN | apply below_drew1) | exact HB.out)) hb); have n1_ := Aside0.mk (hbox); have n2_ := Aside0.mk ((by rw [hg]; exact (below_size (by repeat (first | (with_reducible first | exact HB.out | apply below_alloc | apply pw_below_drewN | apply below_drew1) | exact HB.out))) : w.heap.size ≤ gb413)); have n3_ := Aside0.mk ((by rw [hg]; exact (below_size (by repeat (first | (with_reducible first | exact HB.out | apply below_alloc | apply pw_below_drewN | apply below_drew1) | exact HB.out))) : w.heap.size ≤ gb413)); clear HB; have HB := n0_; have BK413 := n1_; have GW413 := n2_; have GE413 := n3_; clear n0_ n1_ n2_ n3_; clear hb hbox hg) | ((with_reducible refine gate_dst (N := 1) rfl ?_); refine box_event ?hg (N := 1) ?hd (cs := #[.int .i64 0, .int .i64 0]) (t := 30) ?hr ?_; (case hd => rfl); (case hg => rfl); (case hr => first | (go_simp; done) | (go_simp; rfl)); intro gb414 hg w2 hbox hb; have n0_ := Aside0.mk (blk_below (g := gb413) (o := .cells #[.int .i64 0, .int .i64 0, .int .i64 0, .slice none 0 0, .int .i64 0, .int .i64 0, .int .i64 0, .int .i64 0, .int .i64 0, .int .i64 0, .int .i64 0, .string (⟨#[]⟩ : ByteArray), .string (⟨#[]⟩ : ByteArray)] 32 (0, 0)) (by (with_reducible repeat (first | refine blk_drewN ?_ _ | refine blk_drew ?_ | refine blk_alloc ?_ _)); exact BK413.out) hb); have n1_ := Aside0.mk (below_step (by repeat (first | (with_reducible first | exact HB.out | apply below_alloc | apply pw_below_drewN | apply below_drew1 | refine below_set ?_ GE413.out) | exact HB.out)) hb); have n2_ := Aside0.mk (hbox); have n3_ := Aside0.mk ((by rw [hg]; exact (below_size (by repeat (first | (with_reducible first | exact HB.out | apply below_alloc | apply pw_below_drewN | apply below_drew1 | refine below_set ?_ GE413.out) | exact HB.out))) : w.heap.size ≤ gb414)); have n4_ := Aside0.mk ((by rw [hg]; exact (below_size (by repeat (first | (with_reducible first | exact HB.out | apply below_alloc | apply pw_below_drewN | apply below_drew1 | refine below_set ?_ GE413.out) | exact HB.out))) : w.heap.size ≤ gb414)); have n5_ := Aside0.mk ((by rw [hg]; exact Nat.ne_of_lt (blk_lt (g := gb413) (o := .cells #[.int .i64 0, .int .i64 0, .int .i64 0, .slice none 0 0, .int .i64 0, .int .i64 0, .int .i64 0, .int .i64 0, .int .i64 0, .int .i64 0, .int .i64 0, .string (⟨#[]⟩ : ByteArray), .string (⟨#[]⟩ : ByteArray)] 32 (0, 0)) (by (with_reducible repeat (first | refine blk_drewN ?_ _ | refine blk_drew ?_ | refine blk_alloc ?_ _)); exact BK413.out)) : gb413 ≠ gb414)); have n6_ := Aside0.mk ((by rw [hg]; exact Nat.ne_of_gt (blk_lt (g := gb413) (o := .cells #[.int .i64 0, .int .i64 0, .int .i64 0, .slice none 0 0, .int .i64 0, .int .i64 0, .int .i64 0, .int .i64 0, .int .i64 0, .int .i64 0, .int .i64 0, .string (⟨#[]⟩ : ByteArray), .string (⟨#[]⟩ : ByteArray)] 32 (0, 0)) (by (with_reducible repeat (first | refine blk_drewN ?_ _ | refine blk_drew ?_ | refine blk_alloc ?_ _)); exact BK413.out)) : gb414 ≠ gb413)); clear BK413; clear HB; have BK413 := n0_; have HB := n1_; have BK414 := n2_; have GW414 := n3_; have GE414 := n4_; have NB413_414 := n5_; have NB414_413 := n6_; clear n0_ n1_ n2_ n3_ n4_ n5_ n6_; clear hb hbox hg; have hnb3 := NB414_413.out; have hnc3 := NB413_414.out; have hcz4_0 : w2.cell? ⟨gb414, 0, none⟩ = some (.int .i64 0) := (blk_cell BK414.out 0).trans rfl; have hcz4_1 : w2.cell? ⟨gb414, 1, none⟩ = some (.int .i64 0) := (blk_cell BK414.out 1).trans rfl; have hfz4_0 := blk_frozen BK414.out 0; have hfz4_1 := blk_frozen BK414.out 1; obtain ⟨hcz5_0, hcz5_1, hcz5_2, hcz5_3, hcz5_4, hcz5_5, hcz5_6, hcz5_7, hcz5_8, hcz5_9, hcz5_10, hcz5_11, hcz5_12⟩ := cells13 BK413.out; obtain ⟨hfz5_0, hfz5_1, hfz5_2, hfz5_3, hfz5_4, hfz5_5, hfz5_6, hfz5_7, hfz5_8, hfz5_9, hfz5_10, hfz5_11, hfz5_12⟩ := froz13 BK413.out))
 refine bodyPost_ret (results_cell_row rfl _ _ gb413 32 #[.int .i64 1, .int .i64 0, .int .i64 1, .slice none 0 0, .int .i64 1, .int .i64 1, .int .i64 0, .int .i64 0, .int .i64 0, .int .i64 0, .int .i64 0, .string (⟨#[112]⟩ : ByteArray), .string (⟨#[]⟩ : ByteArray)] (0, 0) _ rfl (by (with_reducible repeat (first | refine blk_drewN ?_ _ | refine blk_drew ?_ | refine blk_alloc ?_ _)); refine blk_put (cs := #[.int .i64 1, .int .i64 0, .int .i64 1, .slice none 0 0, .int .i64 1, .int .i64 1, .int .i64 0, .int .i64 0, .int .i64 0, .int .i64 0, .int .i64 0, .string (⟨#[112]⟩ : ByteArray), .string (⟨#[]⟩ : ByteArray)]) ?_ 12 _ rfl; (with_reducible repeat (first | refine blk_drewN ?_ _ | refine blk_drew ?_ | refine blk_alloc ?_ _)); refine blk_put (cs := #[.int .i64 1, .int .i64 0, .int .i64 1, .slice none 0 0, .int .i64 1, .int .i64 1, .int .i64 0, .int .i64 0, .int .i64 0, .int .i64 0, .int .i64 0, .string (⟨#[]⟩ : ByteArray), .string (⟨#[]⟩ : ByteArray)]) ?_ 11 _ rfl; (with_reducible repeat (first | refine blk_drewN ?_ _ | refine blk_drew ?_ | refine blk_alloc ?_ _)); refine blk_put (cs := #[.int .i64 1, .int .i64 0, .int .i64 1, .slice none 0 0, .int .i64 1, .int .i64 1, .int .i64 0, .int .i64 0, .int .i64 0, .int .i64 0, .int .i64 0, .string (⟨#[]⟩ : ByteArray), .string (⟨#[]⟩ : ByteArray)]) ?_ 10 _ rfl; (with_reducible repeat (first | refine blk_drewN ?_ _ | refine blk_drew ?_ | refine blk_alloc ?_ _)); refine blk_put (cs := #[.int .i64 1, .int .i64 0, .int .i64 1, .slice none 0 0, .int .i64 1, .int .i64 1, .int .i64 0, .int .i64 0, .int .i64 0, .int .i64 0, .int .i64 0, .string (⟨#[]⟩ : ByteArray), .string (⟨#[]⟩ : ByteArray)]) ?_ 9 _ rfl; (with_reducible repeat (first | refine blk_drewN ?_ _ | refine blk_drew ?_ | refine blk_alloc ?_ _)); refine blk_put (cs := #[.int .i64 1, .int .i64 0, .int .i64 1, .slice none 0 0, .int .i64 1, .int .i64 1, .int .i64 0, .int .i64 0, .int .i64 0, .int .i64 0, .int .i64 0, .string (⟨#[]⟩ : ByteArray), .string (⟨#[]⟩ : ByteArray)]) ?_ 8 _ rfl; (with_reducible repeat (first | refine blk_drewN ?_ _ | refine blk_drew ?_ | refine blk_alloc ?_ _)); refine blk_put (cs := #[.int .i64 1, .int .i64 0, .int .i64 1, .slice none 0 0, .int .i64 1, .int .i64 1, .int .i64 0, .int .i64 0, .int .i64 0, .int .i64 0, .int .i64 0, .string (⟨#[]⟩ : ByteArray), .string (⟨#[]⟩ : ByteArray)]) ?_ 7 _ rfl; (with_reducible repeat (first | refine blk_drewN ?_ _ | refine blk_drew ?_ | refine blk_alloc ?_ _)); refine blk_put (cs := #[.int .i64 1, .int .i64 0, .int .i64 1, .slice none 0 0, .int .i64 1, .int .i64 1, .int .i64 0, .int .i64 0, .int .i64 0, .int .i64 0, .int .i64 0, .string (⟨#[]⟩ : ByteArray), .string (⟨#[]⟩ : ByteArray)]) ?_ 6 _ rfl; (with_reducible repeat (first | refine blk_drewN ?_ _ | refine blk_drew ?_ | refine blk_alloc ?_ _)); refine blk_put (cs := #[.int .i64 1, .int .i64 0, .int .i64 1, .slice none 0 0, .int .i64 1, .int .i64 0, .int .i64 0, .int .i64 0, .int .i64 0, .int .i64 0, .int .i64 0, .string (⟨#[]⟩ : ByteArray), .string (⟨#[]⟩ : ByteArray)]) ?_ 5 _ rfl; (with_reducible repeat (first | refine blk_drewN ?_ _ | refine blk_drew ?_ | refine blk_alloc ?_ _)); refine blk_put (cs := #[.int .i64 1, .int .i64 0, .int .i64 1, .slice none 0 0, .int .i64 0, .int .i64 0, .int .i64 0, .int .i64 0, .int .i64 0, .int .i64 0, .int .i64 0, .string (⟨#[]⟩ : ByteArray), .string (⟨#[]⟩ : ByteArray)]) ?_ 4 _ rfl; (with_reducible repeat (first | refine blk_drewN ?_ _ | refine blk_drew ?_ | refine blk_alloc ?_ _)); refine blk_put (cs := #[.int .i64 1, .int .i64 0, .int .i64 1, .slice none 0 0, .int .i64 0, .int .i64 0, .int .i64 0, .int .i64 0, .int .i64 0, .int .i64 0, .int .i64 0, .string (⟨#[]⟩ : ByteArray), .string (⟨#[]⟩ : ByteArray)]) ?_ 3 _ rfl; (with_reducible repeat (first | refine blk_drewN ?_ _ | refine blk_drew ?_ | refine blk_alloc ?_ _)); refine blk_put (cs := #[.int .i64 1, .int .i64 0, .int .i64 0, .slice none 0 0, .int .i64 0, .int .i64 0, .int .i64 0, .int .i64 0, .int .i64 0, .int .i64 0, .int .i64 0, .string (⟨#[]⟩ : ByteArray), .string (⟨#[]⟩ : ByteArray)]) ?_ 2 _ rfl; (with_reducible repeat (first | refine blk_drewN ?_ _ | refine blk_drew ?_ | refine blk_alloc ?_ _)); refine blk_put (cs := #[.int .i64 1, .int .i64 0, .int .i64 0, .slice none 0 0, .int .i64 0, .int .i64 0, .int .i64 0, .int .i64 0, .int .i64 0, .int .i64 0, .int .i64 0, .string (⟨#[]⟩ : ByteArray), .string (⟨#[]⟩ : ByteArray)]) ?_ 1 _ rfl; (with_reducible repeat (first | refine blk_drewN ?_ _ | refine blk_drew ?_ | refine blk_alloc ?_ _)); refine blk_put (cs := #[.int .i64 0, .int .i64 0, .int .i64 0, .slice none 0 0, .int .i64 0, .int .i64 0, .int .i64 0, .int .i64 0, .int .i64 0, .int .i64 0, .int .i64 0, .string (⟨#[]⟩ : ByteArray), .string (⟨#[]⟩ : ByteArray)]) ?_ 0 _ rfl; (with_reducible repeat (first | refine blk_drewN ?_ _ | refine blk_drew ?_ | refine blk_alloc ?_ _)); refine blk_far ?_ NB413_414.out _; (with_reducible repeat (first | refine blk_drewN ?_ _ | refine blk_drew ?_ | refine blk_alloc ?_ _)); refine blk_far ?_ NB413_414.out _; (with_reducible repeat (first | refine blk_drewN ?_ _ | refine blk_drew ?_ | refine blk_alloc ?_ _)); exact BK413.out) Try.underlying32 rfl (by kernel_rfl)) rfl ?_
 exact ⟨_, by first | rfl | (simp [errW_none, errW_some] <;> rfl) | (simp [*, errW_none, errW_some] <;> rfl), by first | exact Kd.R_nil _ _ _ _ _ | exact Kd.N_nil _ _ _ _ _ | exact Kd.V_nil _ _ _ _ _ | exact Kd.Q_nil _ _ _ _ _ | exact Kd.S_nil _ _ _ _ _, by repeat (first | (with_reducible first | exact HB.out | apply below_alloc | apply pw_below_drewN | apply below_drew1 | refine below_set ?_ GE413.out | refine below_set ?_ GE414.out) | exact HB.out)⟩
end Go.Proofs.Ytnopjjilpgekfaa.PCa
namespace Go.Proofs.Ytnopjjilpgekfaa.PCa
open Go.RowKit Go.Proofs.YtnopjjilpgekfaaW.PrintWords Go.Proofs.YtnopjjilpgekfaaW.PrintLast Go.Proofs.YtnopjjilpgekfaaW.PrintMore
attribute [local go_sem] max2_int min2_int max_two min_two max_three min_three max_four min_four
set_option linter.unusedVariables false
set_option linter.unusedSimpArgs false
def x2 : S32 := ⟨⟨2, 1⟩, 1, [1], 5, ⟨1, 0⟩, ⟨0, 0⟩, ⟨0, 0⟩, ⟨#[]⟩, ⟨#[97]⟩⟩
def x1 : S32 := ⟨⟨1, 0⟩, 1, [], 1, ⟨1, 0⟩, ⟨0, 0⟩, ⟨0, 0⟩, ⟨#[112]⟩, ⟨#[]⟩⟩
theorem take_x2 : takeF 1 [] [] x2 = ([x2], [], 0) := by kernel_rfl
theorem take_x1 : takeF 1 [x2] [] x1 = ([], [x1, x2], 0) := by kernel_rfl
theorem check_x2 : checkX x2 = 0 := by kernel_rfl
theorem good_x2 : Good [x2] := ⟨fun y hy => by rw [List.mem_singleton.1 hy]; exact check_x2, List.pairwise_singleton _ _⟩
def Yes (w : World) (e : Ending) (w' : World) : Prop := e = .returned (.bool true) ∧ Below w.heap.size w w'
set_option maxHeartbeats 8000000 in
set_option maxRecDepth 100000 in
theorem awake_calls (w : World) : Calls Try.prog 17 #[] w (Yes w) := by
 go_enter Try.func17, Try.ntmps17
 go_wp2_with (fail)
 refine (new_calls w 1 (by decide) (by decide)).mono ?_
 rintro e w1 ⟨g, rfl, hb1, hw1⟩
 have HB1 := Aside0.mk hb1.bound
 have HW1 := Aside0.mk hw1
 clear hb1 hw1
 go_wp2_with (fail)
 refine (topiarylaw09_second.calls _ _ _ _ _ _ _ _ _ _ _ _ _ w1 rfl).mono ?_
 rintro e w2 ⟨v2, rfl, hv2, hw2⟩
 obtain ⟨A2, c2, rfl⟩ := Kd.R_slice hv2
 have HV2 := Aside0.mk (Kd.R_mono (Kd.R_bound hv2) (ok' := fun k => w1.heap.size ≤ k ∧ k < w2.heap.size) (fun k hk => ⟨hk.2.1, hk.2.2.1⟩))
 have HW2 := Aside0.mk (HW1.out.trans (hw2.mono HW1.out.size))
 have HB2 := Aside0.mk (HB1.out.below hw2)
 clear hv2 hw2
 go_wp2_with (fail)
 refine (take13_calls HB2.out Good.nil (by decide) (by decide) none 0 [] (Kd.C_nil _ _) (Nat.le_refl _) x2 A2 c2 (Kd.R_F HV2.out) (fun k hk hp => by have := hp.2; omega) (Kd.R_reads' HV2.out).2.1 (by decide)).mono ?_
 rw [take_x2]
 rintro e w3 ⟨P3, O3, v3, rfl, hb3, hs3, hp3, -, -, hk3⟩
 obtain ⟨A3, c3, rfl⟩ := Kd.S_slice hs3
 have HB3 := Aside0.mk hb3.bound
 have HP3 := Aside0.mk hp3
 have HK3 := Aside0.mk ((Kept.of_below HW2.out (fun k => w.heap.size ≤ k)).then_ hk3 (fun k hk => .inl hk.1))
 clear hb3 hs3 hp3 hk3
 go_wp2_with (go_at_call 16; refine (len_calls HB3.out).mono ?_; rintro e w4 ⟨rfl, rfl⟩)
 refine (topiarylaw09_first.calls _ _ _ _ _ _ _ _ _ _ _ _ _ w4 rfl).mono ?_
 rintro e w5 ⟨v5, rfl, hv5, hw5⟩
 obtain ⟨A5, c5, rfl⟩ := Kd.R_slice hv5
 have HV5 := Aside0.mk (Kd.R_mono (Kd.R_bound hv5) (ok' := fun k => w4.heap.size ≤ k ∧ k < w5.heap.size) (fun k hk => ⟨hk.2.1, hk.2.2.1⟩))
 have HK5 := Aside0.mk (HK3.out.below hw5)
 have HB5 := Aside0.mk (HB3.out.below hw5)
 clear hv5 hw5
 go_wp2_with (fail)
 refine (take13_calls HB5.out good_x2 (by decide) (by decide) none 0 [] (Kd.C_nil _ _) (Nat.le_refl _) x1 A5 c5 (Kd.R_F HV5.out) (fun k hk hp => by have := hp.2; omega) (Kd.R_reads' HV5.out).2.1 (by decide)).mono ?_
 rw [take_x1]
 rintro e w6 ⟨P6, O6, v6, rfl, hb6, hs6, hp6, -, -, hk6⟩
 obtain ⟨gm, cap6, rfl, -, -, -⟩ := Kd.S_form hs6 (by decide)
 have HB6 := Aside0.mk hb6
 have HW6 := Aside0.mk ((HK5.out.then_ hk6 (fun k hk => by
  rcases HP3.out k hk.1 with h | h
  ·exact .inl h.1
  ·exact .inr (Nat.le_trans HW2.out.size h))).to_below (fun _ h => h))
 obtain ⟨c6', hcl, hM, hcc, hfr⟩ := Kd.R_elem (Kd.S_R hs6) z32 0 (by decide) (by decide)
 obtain ⟨vm, rfl, hvm⟩ := chM hM
 have q1 : w6.cell? ⟨gm, 4, none⟩ = some (.int .i64 1) := hcc 4 _ rfl
 clear hb6 hs6 hp6 hk6 hcl hM hcc hfr hvm
 go_wp2_with (go_at_call 16; refine (len_calls HB6.out).mono ?_; rintro e w7 ⟨rfl, rfl⟩)
 go_ret
 exact ⟨rfl, HW6.out⟩
end Go.Proofs.Ytnopjjilpgekfaa.PCa
namespace Go.Proofs.Ytnopjjilpgekfaa.PCa
open Go.RowKit Go.Proofs.YtnopjjilpgekfaaW.PrintWords Go.Proofs.YtnopjjilpgekfaaW.PrintLast Go.Proofs.YtnopjjilpgekfaaW.PrintMore
attribute [local go_sem] max2_int min2_int max_two min_two max_three min_three max_four min_four
set_option linter.unusedVariables false
set_option linter.unusedSimpArgs false
def lrd.T1 : Bool × List (List Nat × List Nat) := (true, [([], []), ([], []), ([1], [1]), ([0, 2, 2], [0, 2]), ([], []), ([], []), ([4, 5, 3], [4, 5]), ([3, 6], [3, 6]), ([7, 6], [7]), ([8, 8], [8]), ([8, 9], [8, 9]), ([10, 9, 0, 1, 2, 3, 4, 5, 6, 7, 8, 9, 10], [10])])
def lrd.B1 : List Nat := [0, 0, 2, 7, 0, 0, 63, 127, 255, 511, 1023, 2047]
theorem lrd.tab1 : rtab .any (opsOf Try.f4 1) = lrd.T1 := by kernel_rfl
theorem lrd.bits1 : waitsOk lrd.T1.2 lrd.B1 = true := by kernel_rfl
theorem ref_copy_any (y : S32) (h : y.f2.length < 17592186044416) : topiaryref05_Copy.f y.f0.f0 y.f0.f1 y.f1 y.f2 y.f3 y.f4.f0 y.f4.f1 y.f5.f0 y.f5.f1 y.f6.f0 y.f6.f1 y.f7 y.f8 = some (y.f0.f0, y.f0.f1, y.f1, y.f2, y.f3, y.f4.f0, y.f4.f1, y.f5.f0, y.f5.f1, y.f6.f0, y.f6.f1, y.f7, y.f8) := by
 unfold topiaryref05_Copy.f
 rw [Option.bind_some, if_pos (by simp only [List.length_nil]; omega), List.nil_append]
set_option maxHeartbeats 8000000 in
set_option maxRecDepth 100000 in
theorem ready_law_calls (w : World) (A0 : Option Addr) (c0 : Nat) (known : List Int) (hk : Kd.C (Kd.int .i64) w A0 known.length known) (hkc : known.length ≤ c0) (x : S32) (A3 : Option Addr) (c3 : Nat) (hx : Kd.C (Kd.int .i64) w A3 x.f2.length x.f2) (hx3 : x.f2.length ≤ c3) (hl : x.f2.length < 17592186044416) (hs : x.f7.size < 4611686018427387904) :
  Calls Try.prog 4 #[.slice A0 known.length c0, (.agg #[.int .i64 x.f0.f0, .int .i64 x.f0.f1, .int .i64 x.f1, (.slice A3 x.f2.length c3), .int .i64 x.f3, .int .i64 x.f4.f0, .int .i64 x.f4.f1, .int .i64 x.f5.f0, .int .i64 x.f5.f1, .int .i64 x.f6.f0, .int .i64 x.f6.f1, .string x.f7, .string x.f8])] w fun e w' => e = .returned (.bool true) ∧ Below w.heap.size w w' := by
 have HK := Aside0.mk hk
 have HKC := Aside0.mk hkc
 have HC3 := Aside0.mk hx
 have HL3 := Aside0.mk hx3
 have HCP := Aside0.mk (ref_copy_any x hl)
 have HR1 := Aside0.mk (causal_Ready_is known x (x.f7.size + 400) hs (by omega) (by omega))
 have HR2 := Aside0.mk (ref_Ready_is known x (x.f7.size + 400) hs (by omega) (by omega))
 generalize readyC known x = r at *
 have e1 : (r == r) = true := by cases r <;> rfl
 clear hk hkc hx hx3 hl hs
 go_enter Try.func4, Try.ntmps4
 go_wp2_with (first | ((with_reducible refine gate_dst (N := 3) rfl ?_); refine box_event ?hg (N := 3) ?hd (cs := #[.int .i64 x.f0.f0, .int .i64 x.f0.f1, .int .i64 x.f1, (.slice A3 x.f2.length c3), .int .i64 x.f3, .int .i64 x.f4.f0, .int .i64 x.f4.f1, .int .i64 x.f5.f0, .int .i64 x.f5.f1, .int .i64 x.f6.f0, .int .i64 x.f6.f1, .string x.f7, .string x.f8]) (t := 32) ?hr ?_; (case hd => rfl); (case hg => rfl); (case hr => first | (go_simp; done) | (go_simp; rfl)); intro gb hr_ w0 hbox hb; have HXgb := Aside0.mk hbox; have HBgb := Aside0.mk hb; have HNgb := Aside0.mk (Nat.le_of_eq hr_.symm); clear hbox hb hr_))
 refine start_ (n := 12) (S := (fun w' => w'.heap[gb]? = some (.cells (chA x (.slice A3 x.f2.length c3)) 32 (0, 0)))) (ds := []) #[false, false, false, false, false, false, false, false, false, false, false, false] (by kernel_rfl) rfl rfl (HXgb.out) (fun hHeld => ?_)
 refine with_tabW lrd.tab1 lrd.bits1 (fun HT_ HW_ => ?_)
 refine pureS (i := 0) (N := (some 5)) #[true, false, false, false, false, false, false, false, false, false, false, false] HT_ ?_
 refine pureS (i := 4) (N := (some 9)) #[true, false, false, false, true, false, false, false, false, false, false, false] HT_ ?_
 refine take_ (i := 1) (N := (some 6)) (v := ?_) (a' := ?_) #[true, true, false, false, true, false, false, false, false, false, false, false] rfl rfl (take_ofW HT_.out HW_.out (by kernel_rfl)) (fun _ _ _ h => h) (Or.inl ⟨by rfl, ?_⟩) hHeld ?_ ?_
 rotate_left
 ·rintro w' s0
  refine Eq.trans (load32_run (x := x) (v := (.slice A3 x.f2.length c3)) _ (p := .tmp 3) ?ho_ ?hp_ (blk_cells s0)) ?hr_
  case ho_ => rfl
  case hp_ => rfl
  case hr_ => rfl
 rotate_left
 ·simp only [Act.put, List.setIfInBounds_toArray, List.set_cons_zero, List.set_cons_succ, i64_w, i32_w]
  rfl
 refine take_ (i := 5) (N := (some 10)) (v := ?_) (a' := ?_) #[true, true, false, false, true, true, false, false, false, false, false, false] rfl rfl (take_ofW HT_.out HW_.out (by kernel_rfl)) (fun _ _ _ h => h) (Or.inl ⟨by rfl, ?_⟩) hHeld ?_ ?_
 rotate_left
 ·rintro w' s0
  refine Eq.trans (load32_run (x := x) (v := (.slice A3 x.f2.length c3)) _ (p := .tmp 3) ?ho_ ?hp_ (blk_cells s0)) ?hr_
  case ho_ => rfl
  case hp_ => rfl
  case hr_ => rfl
 rotate_left
 ·simp only [Act.put, List.setIfInBounds_toArray, List.set_cons_zero, List.set_cons_succ, i64_w, i32_w]
  rfl
 refine one_ (i := 2) (N := (some 7)) #[true, true, true, false, true, true, false, false, false, false, false, false] rfl rfl (one_of HT_.out (by kernel_rfl)) (by decide) (fun K hK => ?_)
 refine goes_ Try.func19 (by kernel_rfl) rfl #[(.agg #[.int .i64 x.f0.f0, .int .i64 x.f0.f1, .int .i64 x.f1, (.slice A3 x.f2.length c3), .int .i64 x.f3, .int .i64 x.f4.f0, .int .i64 x.f4.f1, .int .i64 x.f5.f0, .int .i64 x.f5.f1, .int .i64 x.f6.f0, .int .i64 x.f6.f1, .string x.f7, .string x.f8])] (by rfl) rfl rfl (by (try simp only [List.map_toArray, List.map_cons, List.map_nil]); first | done | rfl) ?_
 refine (topiaryref05_Copy.calls x.f0.f0 x.f0.f1 x.f1 A3 c3 x.f2 x.f3 x.f4.f0 x.f4.f1 x.f5.f0 x.f5.f1 x.f6.f0 x.f6.f1 x.f7 x.f8 x.f0.f0 x.f0.f1 x.f1 x.f2 x.f3 x.f4.f0 x.f4.f1 x.f5.f0 x.f5.f1 x.f6.f0 x.f6.f1 x.f7 x.f8 _ (Kd.C_below HC3.out (below_drew HBgb.out)) HL3.out HCP.out).mono ?_
 rintro e w1 ⟨v1, rfl, hv1, hb1⟩
 obtain ⟨A1, c1, rfl⟩ := Kd.R_slice hv1
 refine ⟨_, rfl, ?_⟩
 have HV1 := Aside0.mk (Kd.R_reads' hv1).2.2
 have HL1 := Aside0.mk (Kd.R_reads' hv1).2.1
 have hS1 : (fun w' => w'.heap[gb]? = some (.cells (chA x (.slice A3 x.f2.length c3)) 32 (0, 0))) w1 := blk_below (w := w0.drew) hHeld hb1
 have HB1 := Aside0.mk ((below_drew HBgb.out).trans (hb1.mono (below_drew HBgb.out).size))
 clear hv1 hb1
 refine hK.out _ _ (hS1) (fun hHeld => ?_)
 clear hK K
 refine norm_ (a' := ?_) ?_ ?_
 rotate_left
 ·show Act.put _ (some 7) _ = _
  simp only [Act.put, List.setIfInBounds_toArray, List.set_cons_zero, List.set_cons_succ, i64_w, i32_w]
  rfl
 refine one_ (i := 3) (N := (some 8)) #[true, true, true, true, true, true, false, false, false, false, false, false] rfl rfl (one_of HT_.out (by kernel_rfl)) (by decide) (fun K hK => ?_)
 refine goes_ Try.func18 (by kernel_rfl) rfl #[.slice A0 known.length c0, (.agg #[.int .i64 x.f0.f0, .int .i64 x.f0.f1, .int .i64 x.f1, (.slice A1 x.f2.length c1), .int .i64 x.f3, .int .i64 x.f4.f0, .int .i64 x.f4.f1, .int .i64 x.f5.f0, .int .i64 x.f5.f1, .int .i64 x.f6.f0, .int .i64 x.f6.f1, .string x.f7, .string x.f8])] (by rfl) rfl rfl (by (try simp only [List.map_toArray, List.map_cons, List.map_nil]); first | done | rfl) ?_
 refine (causal_Ready.calls (x.f7.size + 400) A0 c0 known x.f0.f0 x.f0.f1 x.f1 A1 c1 x.f2 x.f3 x.f4.f0 x.f4.f1 x.f5.f0 x.f5.f1 x.f6.f0 x.f6.f1 x.f7 x.f8 _ _ (Kd.C_below HK.out HB1.out) HKC.out HV1.out HL1.out HR1.out).mono ?_
 rintro e w2 ⟨rfl, hb2⟩
 refine ⟨_, rfl, ?_⟩
 have hS2 : (fun w' => w'.heap[gb]? = some (.cells (chA x (.slice A3 x.f2.length c3)) 32 (0, 0))) w2 := blk_below hS1 hb2
 have HB2 := Aside0.mk (HB1.out.trans (hb2.mono HB1.out.size))
 clear hb2
 refine hK.out _ _ (hS2) (fun hHeld => ?_)
 clear hK K
 refine norm_ (a' := ?_) ?_ ?_
 rotate_left
 ·show Act.put _ (some 8) _ = _
  simp only [Act.put, List.setIfInBounds_toArray, List.set_cons_zero, List.set_cons_succ, i64_w, i32_w]
  rfl
 refine one_ (i := 6) (N := (some 11)) #[true, true, true, true, true, true, true, false, false, false, false, false] rfl rfl (one_of HT_.out (by kernel_rfl)) (by decide) (fun K hK => ?_)
 refine goes_ Try.func20 (by kernel_rfl) rfl #[.slice A0 known.length c0, (.agg #[.int .i64 x.f0.f0, .int .i64 x.f0.f1, .int .i64 x.f1, (.slice A3 x.f2.length c3), .int .i64 x.f3, .int .i64 x.f4.f0, .int .i64 x.f4.f1, .int .i64 x.f5.f0, .int .i64 x.f5.f1, .int .i64 x.f6.f0, .int .i64 x.f6.f1, .string x.f7, .string x.f8])] (by rfl) rfl rfl (by (try simp only [List.map_toArray, List.map_cons, List.map_nil]); first | done | rfl) ?_
 refine (topiaryref09_Ready.calls (x.f7.size + 400) A0 c0 known x.f0.f0 x.f0.f1 x.f1 A3 c3 x.f2 x.f3 x.f4.f0 x.f4.f1 x.f5.f0 x.f5.f1 x.f6.f0 x.f6.f1 x.f7 x.f8 _ _ (Kd.C_below HK.out HB2.out) HKC.out (Kd.C_below HC3.out HB2.out) HL3.out HR2.out).mono ?_
 rintro e w3 ⟨rfl, hb3⟩
 refine ⟨_, rfl, ?_⟩
 have hS3 : (fun w' => w'.heap[gb]? = some (.cells (chA x (.slice A3 x.f2.length c3)) 32 (0, 0))) w3 := blk_below hS2 hb3
 have HB3 := Aside0.mk (HB2.out.trans (hb3.mono HB2.out.size))
 clear hb3
 refine hK.out _ _ (hS3) (fun hHeld => ?_)
 clear hK K
 refine norm_ (a' := ?_) ?_ ?_
 rotate_left
 ·show Act.put _ (some 11) _ = _
  simp only [Act.put, List.setIfInBounds_toArray, List.set_cons_zero, List.set_cons_succ, i64_w, i32_w]
  rfl
 refine pureS (i := 7) (N := (some 12)) #[true, true, true, true, true, true, true, true, false, false, false, false] HT_ ?_
 refine pureS (i := 8) (N := (some 13)) #[true, true, true, true, true, true, true, true, true, false, false, false] HT_ ?_
 refine one_ (i := 9) (N := (some 14)) #[true, true, true, true, true, true, true, true, true, true, false, false] rfl rfl (one_of HT_.out (by kernel_rfl)) (by decide) (fun K hK => ?_)
 refine goes_ Try.func17 (by kernel_rfl) rfl #[] (by rfl) rfl rfl (by (try simp only [List.map_toArray, List.map_cons, List.map_nil]); first | done | rfl) ?_
 refine (awake_calls w3).mono ?_
 rintro e w4 ⟨rfl, hb4⟩
 refine ⟨_, rfl, ?_⟩
 have HB4 := Aside0.mk (HB3.out.trans (hb4.mono HB3.out.size))
 refine hK.out _ _ (blk_below hS3 hb4) (fun hHeld => ?_)
 clear hK K
 refine norm_ (a' := ?_) ?_ ?_
 rotate_left
 ·show Act.put _ (some 14) _ = _
  simp only [Act.put, List.setIfInBounds_toArray, List.set_cons_zero, List.set_cons_succ, i64_w, i32_w]
  rfl
 refine pureS (i := 10) (N := (some 15)) #[true, true, true, true, true, true, true, true, true, true, true, false] HT_ ?_
 refine pureS (i := 11) (N := (some 4)) #[true, true, true, true, true, true, true, true, true, true, true, true] HT_ ?_
 refine done_ (done_of HT_.out (by kernel_rfl)) ?_
 go_wp2_with (fail)
 go_ret
 exact ⟨rfl, HB4.out⟩
end Go.Proofs.Ytnopjjilpgekfaa.PCa
