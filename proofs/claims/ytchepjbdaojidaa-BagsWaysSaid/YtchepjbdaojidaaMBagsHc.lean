/- The document's net against the net in memory: what both tell is the same. -/
import Derived.Test.YtchepjbdaojidaaMBagsXa
import Derived.Test.YtchepjbdaojidaaMBagsHb
import Derived.Test.YtchepjbdaojidaaMBagsXb
namespace Go.Proofs.Ytchepjbdaojidaa.PBags
open Go.RowKit Go.Proofs.YtchepjbdaojidaaW.PrintWords Go.Proofs.YtchepjbdaojidaaW.PrintLast Go.Proofs.YtchepjbdaojidaaW.PrintMore
attribute [local go_sem] max2_int min2_int max_two min_two max_three min_three max_four min_four
set_option linter.unusedVariables false
set_option linter.unusedSimpArgs false
set_option maxHeartbeats 8000000 in
set_option maxRecDepth 100000 in
theorem send_own (k : Nat) (a0_0 : Int) (P0_1_ : Nat → Prop) (A0_1 : Option Addr) (c0_1 : Nat) (l0_1 : List (S45)) (a1 : Int) (a2 : Int) (A3 : Option Addr) (c3 : Nat) (l3 : List Int) (r1 : Int) (r2 : List (S45)) (r3 : Int) (w : World) (hs0_1 : Kd.V k45 45 w w.heap.size (fun k_ => P0_1_ k_) (.slice A0_1 l0_1.length c0_1) l0_1) (hr3 : Kd.C (Kd.int .u8) w A3 l3.length l3) (hc3 : l3.length ≤ c3) (h : topiaryref08_Send.f k a0_0 l0_1 a1 a2 l3 = some (r1, r2, r3)) (hz : r3 = 0) (hnz : ∀ t, topiaryref08_Link.f k a0_0 l0_1 a1 a2 = some t → t ≠ 0 → False) :
    Calls Try.prog 32 #[.agg #[.int .i64 a0_0, .slice A0_1 l0_1.length c0_1], .int .i64 a1, .int .i64 a2, .slice A3 l3.length c3] w fun e w' => ∃ v1_ : Value, e = .returned (.tuple #[.agg #[.int .i64 r1, v1_], .int .i64 r3]) ∧ Kd.N k45 45 w' w.heap.size (fun k_ => (P0_1_ k_ ∨ w.heap.size ≤ k_)) v1_ r2 ∧ Below w.heap.size w w' := by
  have hu41 := Try.underlying41
  have hu45 := Try.underlying45
  have HO0_1 := Aside0.mk (show Kd.V k45 45 w w.heap.size (fun k_ => (P0_1_ k_ ∨ w.heap.size ≤ k_)) (.slice A0_1 l0_1.length c0_1) l0_1 from Kd.V_mono hs0_1 (fun k_ hk => .inl hk))
  have HR3 := Aside0.mk hr3
  have HC3 := Aside0.mk hc3
  clear hr3 hc3
  have HB := Aside0.mk (Below.refl w.heap.size w)
  have H : ((topiaryref08_Link.f k a0_0 l0_1 a1 a2).bind fun t132 => (if t132 = 0 then (if (l3.length : Int) > 65545 then (some (a0_0, l0_1, 3)) else ((topiaryref08_Waiting.f k a0_0 l0_1 a1 a2).bind fun t134 => (if t134 ≥ 256 then (some (a0_0, l0_1, 6)) else ((some (([] : List (S45)) : List (S45))).bind fun y135 => (if y135.length + l0_1.length < 2932031007402 then ((some (y135 ++ l0_1 : List (S45))).bind fun y138 => ((some (([] : List Int) : List Int)).bind fun y141 => (if y141.length + l3.length < 140737488355328 then (if y138.length < 2932031007402 then (some (a0_0, (y138 ++ [(⟨a1, a2, (y141 ++ l3), false⟩ : S45)]), 0)) else (none)) else (none)))) else (none)))))) else ((topiaryref08_Link.f k a0_0 l0_1 a1 a2).bind fun t133 => (some (a0_0, l0_1, t133))))) = some (r1, r2, r3) := h
  clear h
  replace H := Option.bind_eq_some_iff.mp H
  obtain ⟨t132, A50, H⟩ := H
  replace H : (if t132 = 0 then (if (l3.length : Int) > 65545 then (some (a0_0, l0_1, 3)) else ((topiaryref08_Waiting.f k a0_0 l0_1 a1 a2).bind fun t134 => (if t134 ≥ 256 then (some (a0_0, l0_1, 6)) else ((some (([] : List (S45)) : List (S45))).bind fun y135 => (if y135.length + l0_1.length < 2932031007402 then ((some (y135 ++ l0_1 : List (S45))).bind fun y138 => ((some (([] : List Int) : List Int)).bind fun y141 => (if y141.length + l3.length < 140737488355328 then (if y138.length < 2932031007402 then (some (a0_0, (y138 ++ [(⟨a1, a2, (y141 ++ l3), false⟩ : S45)]), 0)) else (none)) else (none)))) else (none)))))) else ((topiaryref08_Link.f k a0_0 l0_1 a1 a2).bind fun t133 => (some (a0_0, l0_1, t133)))) = some (r1, r2, r3) := H
  have A5 := Aside0.mk A50
  clear A50
  by_cases c6 : t132 = 0
  · rw [if_pos c6] at H
    have c6b0 : (t132 == 0) = true := beq_iff_eq.mpr c6
    have c6b1 : (t132 != 0) = false := bne_eq_false_iff_eq.mpr c6
    clear c6
    by_cases c7 : (l3.length : Int) > 65545
    · rw [if_pos c7] at H
      have c7b0 : decide (65545 < (l3.length : Int)) = true := decide_eq_true c7
      have c7b1 : decide (65545 < l3.length) = true := decide_eq_true (by omega)
      clear c7
      simp only [Option.some.injEq, Prod.mk.injEq] at H
      obtain ⟨rfl, rfl, rfl⟩ := H
      exact absurd hz (by decide)
    · rw [if_neg c7] at H
      have c7b0 : decide (65545 < (l3.length : Int)) = false := decide_eq_false c7
      have c7b1 : decide (65545 < l3.length) = false := decide_eq_false (by omega)
      clear c7
      replace H := Option.bind_eq_some_iff.mp H
      obtain ⟨t134, A150, H⟩ := H
      replace H : (if t134 ≥ 256 then (some (a0_0, l0_1, 6)) else ((some (([] : List (S45)) : List (S45))).bind fun y135 => (if y135.length + l0_1.length < 2932031007402 then ((some (y135 ++ l0_1 : List (S45))).bind fun y138 => ((some (([] : List Int) : List Int)).bind fun y141 => (if y141.length + l3.length < 140737488355328 then (if y138.length < 2932031007402 then (some (a0_0, (y138 ++ [(⟨a1, a2, (y141 ++ l3), false⟩ : S45)]), 0)) else (none)) else (none)))) else (none)))) = some (r1, r2, r3) := H
      have A15 := Aside0.mk A150
      clear A150
      by_cases c16 : t134 ≥ 256
      · rw [if_pos c16] at H
        have c16b0 : decide (256 ≤ t134) = true := decide_eq_true c16
        clear c16
        simp only [Option.some.injEq, Prod.mk.injEq] at H
        obtain ⟨rfl, rfl, rfl⟩ := H
        exact absurd hz (by decide)
      · rw [if_neg c16] at H
        have c16b0 : decide (256 ≤ t134) = false := decide_eq_false c16
        clear c16
        obtain ⟨y135, hy135⟩ : ∃ y_ : List (S45), y_ = (([] : List (S45))) := ⟨_, rfl⟩
        replace H : (if y135.length + l0_1.length < 2932031007402 then ((some (y135 ++ l0_1 : List (S45))).bind fun y138 => ((some (([] : List Int) : List Int)).bind fun y141 => (if y141.length + l3.length < 140737488355328 then (if y138.length < 2932031007402 then (some (a0_0, (y138 ++ [(⟨a1, a2, (y141 ++ l3), false⟩ : S45)]), 0)) else (none)) else (none)))) else (none)) = some (r1, r2, r3) := by first | (rw [hy135]; with_reducible exact H) | (have H2_ := (Option.bind_some _ _).symm.trans H; rw [hy135]; with_reducible exact H2_) | (have H2_ := (Option.bind_some _ _).symm.trans H; with_reducible exact H2_) | with_reducible exact H | (rw [hy135]; exact H) | exact H
        have Ny135 := Aside0.mk hy135
        clear hy135
        by_cases c26 : y135.length + l0_1.length < 2932031007402
        · rw [if_pos c26] at H
          have LMc26 := Aside0.mk c26
          clear c26
          obtain ⟨y138, hy138⟩ : ∃ y_ : List (S45), y_ = (y135 ++ l0_1) := ⟨_, rfl⟩
          replace H : ((some (([] : List Int) : List Int)).bind fun y141 => (if y141.length + l3.length < 140737488355328 then (if y138.length < 2932031007402 then (some (a0_0, (y138 ++ [(⟨a1, a2, (y141 ++ l3), false⟩ : S45)]), 0)) else (none)) else (none))) = some (r1, r2, r3) := by first | (rw [hy138]; with_reducible exact H) | (have H2_ := (Option.bind_some _ _).symm.trans H; rw [hy138]; with_reducible exact H2_) | (have H2_ := (Option.bind_some _ _).symm.trans H; with_reducible exact H2_) | with_reducible exact H | (rw [hy138]; exact H) | exact H
          have Ny138 := Aside0.mk hy138
          clear hy138
          obtain ⟨y141, hy141⟩ : ∃ y_ : List Int, y_ = (([] : List Int)) := ⟨_, rfl⟩
          replace H : (if y141.length + l3.length < 140737488355328 then (if y138.length < 2932031007402 then (some (a0_0, (y138 ++ [(⟨a1, a2, (y141 ++ l3), false⟩ : S45)]), 0)) else (none)) else (none)) = some (r1, r2, r3) := by first | (rw [hy141]; with_reducible exact H) | (have H2_ := (Option.bind_some _ _).symm.trans H; rw [hy141]; with_reducible exact H2_) | (have H2_ := (Option.bind_some _ _).symm.trans H; with_reducible exact H2_) | with_reducible exact H | (rw [hy141]; exact H) | exact H
          have Ny141 := Aside0.mk hy141
          clear hy141
          by_cases c27 : y141.length + l3.length < 140737488355328
          · rw [if_pos c27] at H
            have LMc27 := Aside0.mk c27
            clear c27
            obtain ⟨y144, hy144⟩ : ∃ y_ : List Int, y_ = (y141 ++ l3) := ⟨_, rfl⟩
            replace H : (if y138.length < 2932031007402 then (some (a0_0, (y138 ++ [(⟨a1, a2, y144, false⟩ : S45)]), 0)) else (none)) = some (r1, r2, r3) := by first | (rw [hy144]; with_reducible exact H) | (have H2_ := (Option.bind_some _ _).symm.trans H; rw [hy144]; with_reducible exact H2_) | (have H2_ := (Option.bind_some _ _).symm.trans H; with_reducible exact H2_) | with_reducible exact H | (rw [hy144]; exact H) | exact H
            have Ny144 := Aside0.mk hy144
            clear hy144
            by_cases c28 : y138.length < 2932031007402
            · rw [if_pos c28] at H
              have LMc28 := Aside0.mk c28
              clear c28
              obtain ⟨y147, hy147⟩ : ∃ y_ : List (S45), y_ = (y138 ++ [(⟨a1, a2, y144, false⟩ : S45)]) := ⟨_, rfl⟩
              replace H : (some (a0_0, y147, 0)) = some (r1, r2, r3) := by first | (rw [hy147]; with_reducible exact H) | (have H2_ := (Option.bind_some _ _).symm.trans H; rw [hy147]; with_reducible exact H2_) | (have H2_ := (Option.bind_some _ _).symm.trans H; with_reducible exact H2_) | with_reducible exact H | (rw [hy147]; exact H) | exact H
              have Ny147 := Aside0.mk hy147
              clear hy147
              simp only [Option.some.injEq, Prod.mk.injEq] at H
              obtain ⟨rfl, rfl, rfl⟩ := H
              go_enter Try.func32, Try.ntmps32
              try go_wp2_with (first | ((with_reducible refine gate_dst (N := 4) rfl ?_); refine box_event ?hg (N := 4) ?hd (cs := #[.int .i64 a0_0, .slice A0_1 l0_1.length c0_1]) (t := 41) ?hr ?_; (case hd => rfl); (case hg => rfl); (case hr => first | (go_simp; done) | (go_simp; rfl)); intro gb130 hg w29 hbox hb; have n0_ := Aside0.mk (Kd.V_below (Kd.V_elderB (by (with_reducible repeat (first | apply Kd.V_alloc | apply Kd.V_drewN | apply Kd.V_drew)); exact HO0_1.out) gb130 (Nat.le_of_eq hg.symm)) hb); have n1_ := Aside0.mk (below_step (by repeat (first | (with_reducible first | exact HB.out | apply below_alloc | apply pw_below_drewN | apply below_drew1) | exact HB.out)) hb); have n2_ := Aside0.mk (hbox); have n3_ := Aside0.mk ((by rw [hg]; exact (below_size (by repeat (first | (with_reducible first | exact HB.out | apply below_alloc | apply pw_below_drewN | apply below_drew1) | exact HB.out))) : w.heap.size ≤ gb130)); have n4_ := Aside0.mk ((by rw [hg]; exact (below_size (by repeat (first | (with_reducible first | exact HB.out | apply below_alloc | apply pw_below_drewN | apply below_drew1) | exact HB.out))) : w.heap.size ≤ gb130)); clear HO0_1; clear HB; have HO0_1 := n0_; have HB := n1_; have BK130 := n2_; have GW130 := n3_; have GE130 := n4_; clear n0_ n1_ n2_ n3_ n4_; clear hb hbox hg) | ((with_reducible refine gate_dst (N := 8) rfl ?_); refine box_event ?hg (N := 8) ?hd (cs := #[.int .i64 0, .slice none 0 0]) (t := 41) ?hr ?_; (case hd => rfl); (case hg => rfl); (case hr => first | (go_simp; done) | (go_simp; rfl)); intro gb131 hg w30 hbox hb; have n0_ := Aside0.mk (Kd.V_below (Kd.V_elderB (by (with_reducible repeat (first | apply Kd.V_alloc | apply Kd.V_drewN | apply Kd.V_drew)); exact HO0_1.out) gb131 (Nat.le_of_eq hg.symm)) hb); have n1_ := Aside0.mk (blk_below (g := gb130) (o := .cells #[.int .i64 a0_0, .slice A0_1 l0_1.length c0_1] 41 (0, 0)) (by (with_reducible repeat (first | refine blk_drewN ?_ _ | refine blk_drew ?_ | refine blk_alloc ?_ _)); exact BK130.out) hb); have n2_ := Aside0.mk (below_step (by repeat (first | (with_reducible first | exact HB.out | apply below_alloc | apply pw_below_drewN | apply below_drew1 | refine below_set ?_ GE130.out) | exact HB.out)) hb); have n3_ := Aside0.mk (hbox); have n4_ := Aside0.mk ((by rw [hg]; exact (below_size (by repeat (first | (with_reducible first | exact HB.out | apply below_alloc | apply pw_below_drewN | apply below_drew1 | refine below_set ?_ GE130.out) | exact HB.out))) : w.heap.size ≤ gb131)); have n5_ := Aside0.mk ((by rw [hg]; exact (below_size (by repeat (first | (with_reducible first | exact HB.out | apply below_alloc | apply pw_below_drewN | apply below_drew1 | refine below_set ?_ GE130.out) | exact HB.out))) : w.heap.size ≤ gb131)); have n6_ := Aside0.mk ((by rw [hg]; exact Nat.ne_of_lt (blk_lt (g := gb130) (o := .cells #[.int .i64 a0_0, .slice A0_1 l0_1.length c0_1] 41 (0, 0)) (by (with_reducible repeat (first | refine blk_drewN ?_ _ | refine blk_drew ?_ | refine blk_alloc ?_ _)); exact BK130.out)) : gb130 ≠ gb131)); have n7_ := Aside0.mk ((by rw [hg]; exact Nat.ne_of_gt (blk_lt (g := gb130) (o := .cells #[.int .i64 a0_0, .slice A0_1 l0_1.length c0_1] 41 (0, 0)) (by (with_reducible repeat (first | refine blk_drewN ?_ _ | refine blk_drew ?_ | refine blk_alloc ?_ _)); exact BK130.out)) : gb131 ≠ gb130)); clear HO0_1; clear BK130; clear HB; have HO0_1 := n0_; have BK130 := n1_; have HB := n2_; have BK131 := n3_; have GW131 := n4_; have GE131 := n5_; have NB130_131 := n6_; have NB131_130 := n7_; clear n0_ n1_ n2_ n3_ n4_ n5_ n6_ n7_; clear hb hbox hg; have hnb31 := NB130_131.out; have hnc31 := NB131_130.out; have hcz32_0 : w30.cell? ⟨gb130, 0, none⟩ = some (.int .i64 a0_0) := (blk_cell BK130.out 0).trans rfl; have hcz32_1 : w30.cell? ⟨gb130, 1, none⟩ = some (.slice A0_1 l0_1.length c0_1) := (blk_cell BK130.out 1).trans rfl; have hfz32_0 := blk_frozen BK130.out 0; have hfz32_1 := blk_frozen BK130.out 1) | ((with_reducible refine gate_callee (f := 36) rfl ?_); refine goesL_ (some 14) rfl rfl Try.func36 (by kernel_rfl) rfl #[.agg #[.int .i64 a0_0, .slice A0_1 l0_1.length c0_1], .int .i64 a1, .int .i64 a2] rfl (by (try simp only [List.map_toArray, List.map_cons, List.map_nil]); first | done | rfl | (simp only [List.length_drop, List.length_take]; rfl)) ?_; (with_reducible refine (topiaryref08_Link.calls k a0_0 _ _ l0_1 a1 a2 t132 _ ?side1 ?side2 A5.out).mono ?_); (case side1 => repeat (first | exact (Kd.V_reads' HO0_1.out).2.2 | (with_reducible refine Kd.C_alloc ?_ _) | (with_reducible refine Kd.C_drewN ?_ _) | (with_reducible refine Kd.C_drew ?_))); (case side2 => exact (Kd.V_reads' HO0_1.out).2.1); rintro e w33 ⟨rfl, hb⟩; refine ⟨_, rfl, ?_⟩; have n0_ := Aside0.mk (Kd.V_below (by (with_reducible repeat (first | apply Kd.V_alloc | apply Kd.V_drewN | apply Kd.V_drew)); exact HO0_1.out) hb); have n1_ := Aside0.mk (blk_below (g := gb130) (o := .cells #[.int .i64 a0_0, .slice A0_1 l0_1.length c0_1] 41 (0, 0)) (by (with_reducible repeat (first | refine blk_drewN ?_ _ | refine blk_drew ?_ | refine blk_alloc ?_ _)); exact BK130.out) hb); have n2_ := Aside0.mk (blk_below (g := gb131) (o := .cells #[.int .i64 0, .slice none 0 0] 41 (0, 0)) (by (with_reducible repeat (first | refine blk_drewN ?_ _ | refine blk_drew ?_ | refine blk_alloc ?_ _)); exact BK131.out) hb); have n3_ := Aside0.mk (below_step (by repeat (first | (with_reducible first | exact HB.out | apply below_alloc | apply pw_below_drewN | apply below_drew1 | refine below_set ?_ GE130.out | refine below_set ?_ GE131.out) | exact HB.out)) hb); clear HO0_1; clear BK130; clear BK131; clear HB; have HO0_1 := n0_; have BK130 := n1_; have BK131 := n2_; have HB := n3_; clear n0_ n1_ n2_ n3_; (try clear hb); (try clear hb2); (try clear hk); (try clear hi); have hcz34_0 : w33.cell? ⟨gb130, 0, none⟩ = some (.int .i64 a0_0) := (blk_cell BK130.out 0).trans rfl; have hcz34_1 : w33.cell? ⟨gb130, 1, none⟩ = some (.slice A0_1 l0_1.length c0_1) := (blk_cell BK130.out 1).trans rfl; have hfz34_0 := blk_frozen BK130.out 0; have hfz34_1 := blk_frozen BK130.out 1) | ((with_reducible refine gate_callee (f := 19) rfl ?_); refine goesL_ (some 28) rfl rfl Try.func19 (by kernel_rfl) rfl #[.agg #[.int .i64 a0_0, .slice A0_1 l0_1.length c0_1], .int .i64 a1, .int .i64 a2] rfl (by (try simp only [List.map_toArray, List.map_cons, List.map_nil]); first | done | rfl | (simp only [List.length_drop, List.length_take]; rfl)) ?_; (with_reducible refine (topiaryref08_Waiting.calls k a0_0 _ _ l0_1 a1 a2 t134 _ ?side1 ?side2 A15.out).mono ?_); (case side1 => repeat (first | exact (Kd.V_reads' HO0_1.out).2.2 | (with_reducible refine Kd.C_alloc ?_ _) | (with_reducible refine Kd.C_drewN ?_ _) | (with_reducible refine Kd.C_drew ?_))); (case side2 => exact (Kd.V_reads' HO0_1.out).2.1); rintro e w35 ⟨rfl, hb⟩; refine ⟨_, rfl, ?_⟩; have n0_ := Aside0.mk (Kd.V_below (by (with_reducible repeat (first | apply Kd.V_alloc | apply Kd.V_drewN | apply Kd.V_drew)); exact HO0_1.out) hb); have n1_ := Aside0.mk (blk_below (g := gb130) (o := .cells #[.int .i64 a0_0, .slice A0_1 l0_1.length c0_1] 41 (0, 0)) (by (with_reducible repeat (first | refine blk_drewN ?_ _ | refine blk_drew ?_ | refine blk_alloc ?_ _)); exact BK130.out) hb); have n2_ := Aside0.mk (blk_below (g := gb131) (o := .cells #[.int .i64 0, .slice none 0 0] 41 (0, 0)) (by (with_reducible repeat (first | refine blk_drewN ?_ _ | refine blk_drew ?_ | refine blk_alloc ?_ _)); exact BK131.out) hb); have n3_ := Aside0.mk (below_step (by repeat (first | (with_reducible first | exact HB.out | apply below_alloc | apply pw_below_drewN | apply below_drew1 | refine below_set ?_ GE130.out | refine below_set ?_ GE131.out) | exact HB.out)) hb); clear HO0_1; clear BK130; clear BK131; clear HB; have HO0_1 := n0_; have BK130 := n1_; have BK131 := n2_; have HB := n3_; clear n0_ n1_ n2_ n3_; (try clear hb); (try clear hb2); (try clear hk); (try clear hi)) | ((with_reducible refine gate_dst (N := 31) rfl ?_); refine Kd.N_lit k45 _ 45 ?hg (N' := 31) ?hd (xs := ([] : List (S45))) (inner := []) (ok := (fun k_ => (P0_1_ k_ ∨ w.heap.size ≤ k_) ∧ k_ ≠ gb130 ∧ k_ ≠ gb131)) (okp := (fun k_ => (P0_1_ k_ ∨ w.heap.size ≤ k_) ∧ k_ ≠ gb130 ∧ k_ ≠ gb131)) ?hr ?hp (fun _ hk => hk) ((show ∀ k_, w35.heap.size ≤ k_ → (fun k_ => (P0_1_ k_ ∨ w.heap.size ≤ k_) ∧ k_ ≠ gb130 ∧ k_ ≠ gb131) k_ from fun k_ hk => ⟨(.inr (Nat.le_trans (below_size (by repeat (first | (with_reducible first | exact HB.out | apply below_alloc | apply pw_below_drewN | apply below_drew1 | refine below_set ?_ GE130.out | refine below_set ?_ GE131.out) | exact HB.out))) hk)), Kd.freshB (g := gb130) (o := .cells #[.int .i64 a0_0, .slice A0_1 l0_1.length c0_1] 41 (0, 0)) (by (with_reducible repeat (first | refine blk_drewN ?_ _ | refine blk_drew ?_ | refine blk_alloc ?_ _)); exact BK130.out) k_ hk, Kd.freshB (g := gb131) (o := .cells #[.int .i64 0, .slice none 0 0] 41 (0, 0)) (by (with_reducible repeat (first | refine blk_drewN ?_ _ | refine blk_drew ?_ | refine blk_alloc ?_ _)); exact BK131.out) k_ hk⟩) _ (Nat.le_refl _)) (Below.refl _ _) (Nat.le_refl _) (by simp) ?_; (case hd => rfl); (case hg => rfl); (case hr => first | (go_simp; done) | (go_simp; rfl)); (case hp => exact (Reps.none _ _)); intro v136 w36 ho37 hb hg_ hnew_; clear hg_ hnew_; (first | rw [← Ny135.out] at ho37 | (simp only [Int.reduceToNat] at ho37; rw [← Ny135.out] at ho37)); have n0_ := Aside0.mk (Kd.V_elder' (by (with_reducible repeat (first | apply Kd.V_alloc | apply Kd.V_drewN | apply Kd.V_drew)); exact HO0_1.out) (Kd.N_base ho37) hb); have n1_ := Aside0.mk (Kd.N_lower ho37 (below_size (by repeat (first | (with_reducible first | exact HB.out | apply below_alloc | apply pw_below_drewN | apply below_drew1 | refine below_set ?_ GE130.out | refine below_set ?_ GE131.out) | exact HB.out)))); have n2_ := Aside0.mk (blk_below (g := gb130) (o := .cells #[.int .i64 a0_0, .slice A0_1 l0_1.length c0_1] 41 (0, 0)) (by (with_reducible repeat (first | refine blk_drewN ?_ _ | refine blk_drew ?_ | refine blk_alloc ?_ _)); exact BK130.out) hb); have n3_ := Aside0.mk (blk_below (g := gb131) (o := .cells #[.int .i64 0, .slice none 0 0] 41 (0, 0)) (by (with_reducible repeat (first | refine blk_drewN ?_ _ | refine blk_drew ?_ | refine blk_alloc ?_ _)); exact BK131.out) hb); have n4_ := Aside0.mk (below_step (by repeat (first | (with_reducible first | exact HB.out | apply below_alloc | apply pw_below_drewN | apply below_drew1 | refine below_set ?_ GE130.out | refine below_set ?_ GE131.out) | exact HB.out)) hb); clear HO0_1; clear BK130; clear BK131; clear HB; have HO0_1 := n0_; have HO137 := n1_; have BK130 := n2_; have BK131 := n3_; have HB := n4_; clear n0_ n1_ n2_ n3_ n4_; clear hb ho37; have hcz38_0 : w36.cell? ⟨gb130, 0, none⟩ = some (.int .i64 a0_0) := (blk_cell BK130.out 0).trans rfl; have hcz38_1 : w36.cell? ⟨gb130, 1, none⟩ = some (.slice A0_1 l0_1.length c0_1) := (blk_cell BK130.out 1).trans rfl; have hfz38_0 := blk_frozen BK130.out 0; have hfz38_1 := blk_frozen BK130.out 1) | ((with_reducible refine gate_builtin (b := .append) (xs := #[.tmp 31, .tmp 33]) rfl ?_); at_builtin; refine Kd.N_append_rows k45 (w0 := w) w.heap.size rfl (.tmp 31) (.tmp 33) 39 45 (.agg #[(.int .i64 0), (.int .i64 0), (.slice none 0 0), (.bool false)]) 48 rfl Try.underlying39 info45 rfl (by decide) (by omega) v136 y135 l0_1 _ _ _ (fun k_ => (P0_1_ k_ ∨ w.heap.size ≤ k_) ∧ k_ ≠ gb130 ∧ k_ ≠ gb131) (fun k_ => ((fun k_ => (P0_1_ k_ ∨ w.heap.size ≤ k_) ∧ k_ ≠ gb130 ∧ k_ ≠ gb131)) k_ ∧ some k_ ≠ (v136 : Value).ownBlock) rfl rfl ?aO ?aR (fun _ hk => hk) ?aF ?aB ?aS ?aL ?_; (case aR => exact (by skip; exact Kd.V_F (Kd.V_mono (ok' := (fun k_ => ((fun k_ => (P0_1_ k_ ∨ w.heap.size ≤ k_) ∧ k_ ≠ gb130 ∧ k_ ≠ gb131)) k_ ∧ some k_ ≠ (v136 : Value).ownBlock)) (HO0_1.out) (fun k_ hk => ⟨⟨hk.1.1.1, ⟨hk.1.1.2, hk.1.2⟩⟩, hk.2⟩)))); (case aB => exact (by repeat (first | (with_reducible first | exact HB.out | apply below_alloc | apply pw_below_drewN | apply below_drew1 | refine below_set ?_ GE130.out | refine below_set ?_ GE131.out) | exact HB.out))); (case aF => exact (fun k_ hk => ⟨(.inr (Nat.le_trans (below_size (by repeat (first | (with_reducible first | exact HB.out | apply below_alloc | apply pw_below_drewN | apply below_drew1 | refine below_set ?_ GE130.out | refine below_set ?_ GE131.out) | exact HB.out))) hk)), Kd.freshB (g := gb130) (o := .cells #[.int .i64 a0_0, .slice A0_1 l0_1.length c0_1] 41 (0, 0)) (by (with_reducible repeat (first | refine blk_drewN ?_ _ | refine blk_drew ?_ | refine blk_alloc ?_ _)); exact BK130.out) k_ hk, Kd.freshB (g := gb131) (o := .cells #[.int .i64 0, .slice none 0 0] 41 (0, 0)) (by (with_reducible repeat (first | refine blk_drewN ?_ _ | refine blk_drew ?_ | refine blk_alloc ?_ _)); exact BK131.out) k_ hk⟩)); (case aO => exact (by (with_reducible repeat (first | apply Kd.N_alloc | apply Kd.N_drewN | apply Kd.N_drew)); exact HO137.out)); (case aS => exact (below_size (by repeat (first | (with_reducible first | exact HB.out | apply below_alloc | apply pw_below_drewN | apply below_drew1 | refine below_set ?_ GE130.out | refine below_set ?_ GE131.out) | exact HB.out)))); (case aL => have := LMc26.out; omega); intro v139 w39 ho hb hg hat; rw [← Ny138.out] at ho; have n0_ := Aside0.mk (Kd.V_afterv (ok := (fun k_ => (P0_1_ k_ ∨ w.heap.size ≤ k_) ∧ k_ ≠ gb130 ∧ k_ ≠ gb131)) (by (with_reducible repeat (first | apply Kd.V_alloc | apply Kd.V_drewN | apply Kd.V_drew)); exact Kd.V_mono HO0_1.out (fun _ hk => ⟨⟨hk.1.1.1, ⟨hk.1.1.2, hk.1.2⟩⟩, hk.2⟩)) hg hat); have n1_ := Aside0.mk (blk_grown (g := gb130) (o := .cells #[.int .i64 a0_0, .slice A0_1 l0_1.length c0_1] 41 (0, 0)) (by (with_reducible repeat (first | refine blk_drewN ?_ _ | refine blk_drew ?_ | refine blk_alloc ?_ _)); exact BK130.out) hg (Kd.N_ne HO137.out BK130.out (by decide))); have n2_ := Aside0.mk (blk_grown (g := gb131) (o := .cells #[.int .i64 0, .slice none 0 0] 41 (0, 0)) (by (with_reducible repeat (first | refine blk_drewN ?_ _ | refine blk_drew ?_ | refine blk_alloc ?_ _)); exact BK131.out) hg (Kd.N_ne HO137.out BK131.out (by decide))); have n3_ := Aside0.mk (hb); have n4_ := Aside0.mk (ho); clear HO0_1; clear BK130; clear BK131; clear HB; clear HO137; have HO0_1 := n0_; have BK130 := n1_; have BK131 := n2_; have HB := n3_; have HO140 := n4_; clear n0_ n1_ n2_ n3_ n4_; clear ho hb hg hat))
              have n0_ := Aside0.mk (Kd.V_drew HO0_1.out)
              have n1_ := Aside0.mk (Kd.N_drew HO140.out)
              have n2_ := Aside0.mk (blk_drew BK130.out)
              have n3_ := Aside0.mk (blk_drew BK131.out)
              have n4_ := Aside0.mk (below_drew1 HB.out)
              clear HO0_1
              clear HO140
              clear BK130
              clear BK131
              clear HB
              have HO0_1 := n0_
              have HO140 := n1_
              have BK130 := n2_
              have BK131 := n3_
              have HB := n4_
              clear n0_ n1_ n2_ n3_ n4_
              refine start_ (n := 14) (S := fun w' => w'.cell? ⟨gb130, 0, none⟩ = some (.int .i64 a0_0) ∧ w'.cell? ⟨gb130, 1, none⟩ = some (.slice A0_1 l0_1.length c0_1)) (ds := []) #[false, false, false, false, false, false, false, false, false, false, false, false, false, false] (by kernel_rfl) rfl rfl ⟨(blk_cell BK130.out 0).trans rfl, (blk_cell BK130.out 1).trans rfl⟩ (fun hHeld => ?_); refine with_tabW topiaryref08_Send.tab8 topiaryref08_Send.bits8 (fun HT_ HW_ => ?_)
              generalize w39.drew = w40 at HO0_1 HO140 BK130 BK131 HB hHeld ⊢
              refine pure_ (i := 0) (N := some 35) (v := ?_) (a' := ?_) #[true, false, false, false, false, false, false, false, false, false, false, false, false, false] rfl rfl (any_of HT_.out (by kernel_rfl)) (fun _ _ _ h => h) (Or.inl ⟨by rfl, ?_⟩) ?_ ?_
              rotate_left
              · intro w'
                go_simp
                with_reducible rfl
              rotate_left
              · simp only [Act.put, List.setIfInBounds_toArray, List.set_cons_zero, List.set_cons_succ, i64_w, i32_w]
                rfl
              refine pure_ (i := 2) (N := some 37) (v := ?_) (a' := ?_) #[true, false, true, false, false, false, false, false, false, false, false, false, false, false] rfl rfl (any_of HT_.out (by kernel_rfl)) (fun _ _ _ h => h) (Or.inl ⟨by rfl, ?_⟩) ?_ ?_
              rotate_left
              · intro w'
                go_simp
                with_reducible rfl
              rotate_left
              · simp only [Act.put, List.setIfInBounds_toArray, List.set_cons_zero, List.set_cons_succ, i64_w, i32_w]
                rfl
              refine pure_ (i := 3) (N := some 38) (v := ?_) (a' := ?_) #[true, false, true, true, false, false, false, false, false, false, false, false, false, false] rfl rfl (any_of HT_.out (by kernel_rfl)) (fun _ _ _ h => h) (Or.inl ⟨by rfl, ?_⟩) ?_ ?_
              rotate_left
              · intro w'
                go_simp
                with_reducible rfl
              rotate_left
              · simp only [Act.put, List.setIfInBounds_toArray, List.set_cons_zero, List.set_cons_succ, i64_w, i32_w]
                rfl
              refine pure_ (i := 4) (N := some 39) (v := ?_) (a' := ?_) #[true, false, true, true, true, false, false, false, false, false, false, false, false, false] rfl rfl (any_of HT_.out (by kernel_rfl)) (fun _ _ _ h => h) (Or.inl ⟨by rfl, ?_⟩) ?_ ?_
              rotate_left
              · intro w'
                go_simp
                with_reducible rfl
              rotate_left
              · simp only [Act.put, List.setIfInBounds_toArray, List.set_cons_zero, List.set_cons_succ, i64_w, i32_w]
                rfl
              refine pure_ (i := 6) (N := some 41) (v := ?_) (a' := ?_) #[true, false, true, true, true, false, true, false, false, false, false, false, false, false] rfl rfl (any_of HT_.out (by kernel_rfl)) (fun _ _ _ h => h) (Or.inl ⟨by rfl, ?_⟩) ?_ ?_
              rotate_left
              · intro w'
                go_simp
                with_reducible rfl
              rotate_left
              · simp only [Act.put, List.setIfInBounds_toArray, List.set_cons_zero, List.set_cons_succ, i64_w, i32_w]
                rfl
              refine take_ (i := 1) (N := some 36) (v := ?_) (a' := ?_) #[true, true, true, true, true, false, true, false, false, false, false, false, false, false] rfl rfl (take_ofW HT_.out HW_.out (by kernel_rfl)) (fun _ _ _ h => h) (Or.inl ⟨by rfl, ?_⟩) hHeld ?_ ?_
              rotate_left
              · rintro w' ⟨s0, s1⟩
                go_simp
                with_reducible rfl
              rotate_left
              · simp only [Act.put, List.setIfInBounds_toArray, List.set_cons_zero, List.set_cons_succ, i64_w, i32_w]
                rfl
              refine one_ (i := 5) (N := some 40) #[true, true, true, true, true, true, true, false, false, false, false, false, false, false] rfl rfl (one_of HT_.out (by kernel_rfl)) (by decide) (fun K hK => ?_)
              refine Kd.R_lit_step (Kd.int .u8) _ 5 ?hg (N := 40) ?hd (xs := ([] : List Int)) (inner := []) (ok := fun _ => True) (okp := fun _ => True) ?hr ?hp (fun _ hk => hk) trivial (Below.refl _ _) (Nat.le_refl _) (by simp) ?_; (case hd => rfl); (case hg => rfl); (case hr => first | (go_simp; done) | (go_simp; rfl)); (case hp => exact (Reps.none _ _))
              intro v142 w41 ho42 hb hg_ hnew_
              clear hg_ hnew_
              (first | rw [← Ny141.out] at ho42 | (simp only [Int.reduceToNat] at ho42; rw [← Ny141.out] at ho42))
              have n0_ := Aside0.mk (Kd.V_elder' (by (with_reducible repeat (first | apply Kd.V_alloc | apply Kd.V_drewN | apply Kd.V_drew)); exact HO0_1.out) (Kd.R_base ho42) hb)
              have n1_ := Aside0.mk (Kd.N_elder' (by (with_reducible repeat (first | apply Kd.N_alloc | apply Kd.N_drewN | apply Kd.N_drew)); exact HO140.out) (Kd.R_base ho42) hb)
              have n2_ := Aside0.mk (Kd.R_lower (Kd.R_newM (M := fun k_ => (w.heap.size ≤ k_)) ho42 (below_size (by repeat (first | (with_reducible first | exact HB.out | apply below_alloc | apply pw_below_drewN | apply below_drew1 | refine below_set ?_ GE130.out | refine below_set ?_ GE131.out) | exact HB.out))) (fun k_ h_ => h_)) (below_size (by repeat (first | (with_reducible first | exact HB.out | apply below_alloc | apply pw_below_drewN | apply below_drew1 | refine below_set ?_ GE130.out | refine below_set ?_ GE131.out) | exact HB.out))))
              have n3_ := Aside0.mk (blk_below (g := gb130) (o := .cells #[.int .i64 a0_0, .slice A0_1 l0_1.length c0_1] 41 (0, 0)) (by (with_reducible repeat (first | refine blk_drewN ?_ _ | refine blk_drew ?_ | refine blk_alloc ?_ _)); exact BK130.out) hb)
              have n4_ := Aside0.mk (blk_below (g := gb131) (o := .cells #[.int .i64 0, .slice none 0 0] 41 (0, 0)) (by (with_reducible repeat (first | refine blk_drewN ?_ _ | refine blk_drew ?_ | refine blk_alloc ?_ _)); exact BK131.out) hb)
              have n5_ := Aside0.mk (below_step (by repeat (first | (with_reducible first | exact HB.out | apply below_alloc | apply pw_below_drewN | apply below_drew1 | refine below_set ?_ GE130.out | refine below_set ?_ GE131.out) | exact HB.out)) hb)
              clear HO0_1
              clear HO140
              clear BK130
              clear BK131
              clear HB
              have HO0_1 := n0_
              have HO140 := n1_
              have HO143 := n2_
              have BK130 := n3_
              have BK131 := n4_
              have HB := n5_
              clear n0_ n1_ n2_ n3_ n4_ n5_
              clear hb ho42
              refine hK.out _ _ ⟨(blk_cell BK130.out 0).trans rfl, (blk_cell BK130.out 1).trans rfl⟩ (fun hHeld => ?_)
              clear hK K
              refine norm_ (a' := ?_) ?_ ?_
              rotate_left
              · show Act.put _ (some 40) _ = _
                simp only [Act.put, List.setIfInBounds_toArray, List.set_cons_zero, List.set_cons_succ, i64_w, i32_w]
                rfl
              refine one_ (i := 7) (N := some 42) #[true, true, true, true, true, true, true, true, false, false, false, false, false, false] rfl rfl (one_of HT_.out (by kernel_rfl)) (by decide) (fun K hK => ?_)
              refine Kd.R_append_rows_step (Kd.int .u8) (w0 := w) w.heap.size (by rfl) (.tmp 40) (.tmp 41) 22 5 (.int .u8 0) 1 rfl Try.underlying22 info5 rfl (by decide) (by omega) v142 y141 l3 _ _ _ (fun k_ => (w.heap.size ≤ k_)) (fun _ => False) rfl rfl ?aO ?aR (fun _ _ h => h) (fun _ h => h.elim) ?aF ?aB ?aS ?aL ?_
              (case aR => repeat (first | exact (Kd.C_below HR3.out HB.out) | (with_reducible refine Kd.C_alloc ?_ _) | (with_reducible refine Kd.C_drewN ?_ _) | (with_reducible refine Kd.C_drew ?_)))
              (case aB => exact (by repeat (first | (with_reducible first | exact HB.out | apply below_alloc | apply pw_below_drewN | apply below_drew1 | refine below_set ?_ GE130.out | refine below_set ?_ GE131.out) | exact HB.out)))
              (case aF => exact (fun k_ hk => (Nat.le_trans (below_size (by repeat (first | (with_reducible first | exact HB.out | apply below_alloc | apply pw_below_drewN | apply below_drew1 | refine below_set ?_ GE130.out | refine below_set ?_ GE131.out) | exact HB.out))) hk)))
              (case aO => exact (by (with_reducible repeat (first | apply Kd.R_alloc | apply Kd.R_drewN | apply Kd.R_drew)); exact Kd.R_mono HO143.out (fun _ hk => hk.1)))
              (case aS => exact (below_size (by repeat (first | (with_reducible first | exact HB.out | apply below_alloc | apply pw_below_drewN | apply below_drew1 | refine below_set ?_ GE130.out | refine below_set ?_ GE131.out) | exact HB.out))))
              (case aL => have := LMc27.out; omega)
              intro v145 w43 ho hb hg hat
              rw [← Ny144.out] at ho
              have n0_ := Aside0.mk (Kd.V_afterv (ok := (fun k_ => (P0_1_ k_ ∨ w.heap.size ≤ k_) ∧ some k_ ≠ (v139 : Value).ownBlock ∧ k_ ≠ gb130 ∧ k_ ≠ gb131)) (by (with_reducible repeat (first | apply Kd.V_alloc | apply Kd.V_drewN | apply Kd.V_drew)); exact Kd.V_mono HO0_1.out (fun _ hk => ⟨⟨hk.1.1.1, ⟨hk.1.2, ⟨hk.1.1.2.1, hk.1.1.2.2⟩⟩⟩, hk.2⟩)) hg hat)
              have n1_ := Aside0.mk (blk_grown (g := gb130) (o := .cells #[.int .i64 a0_0, .slice A0_1 l0_1.length c0_1] 41 (0, 0)) (by (with_reducible repeat (first | refine blk_drewN ?_ _ | refine blk_drew ?_ | refine blk_alloc ?_ _)); exact BK130.out) hg (Kd.R_ne HO143.out BK130.out (by decide)))
              have n2_ := Aside0.mk (blk_grown (g := gb131) (o := .cells #[.int .i64 0, .slice none 0 0] 41 (0, 0)) (by (with_reducible repeat (first | refine blk_drewN ?_ _ | refine blk_drew ?_ | refine blk_alloc ?_ _)); exact BK131.out) hg (Kd.R_ne HO143.out BK131.out (by decide)))
              have n3_ := Aside0.mk (Kd.N_afterv (ok := (fun k_ => (P0_1_ k_ ∨ w.heap.size ≤ k_) ∧ k_ ≠ gb130 ∧ k_ ≠ gb131)) (by (with_reducible repeat (first | apply Kd.N_alloc | apply Kd.N_drewN | apply Kd.N_drew)); exact HO140.out) hg hat)
              have n4_ := Aside0.mk (hb)
              have n5_ := Aside0.mk (ho)
              clear HO0_1
              clear BK130
              clear BK131
              clear HO140
              clear HB
              clear HO143
              have HO0_1 := n0_
              have BK130 := n1_
              have BK131 := n2_
              have HO140 := n3_
              have HB := n4_
              have HO146 := n5_
              clear n0_ n1_ n2_ n3_ n4_ n5_
              clear ho hb hg hat
              obtain ⟨Ao44, co44, eo44⟩ := Kd.R_slice HO146.out
              (first | subst eo44 | (injection eo44 with f1_ f2_ f3_; have f4_ := f1_.symm; have f5_ := f3_.symm; clear f1_ f2_ f3_; subst f4_; subst f5_))
              refine hK.out _ _ ⟨(blk_cell BK130.out 0).trans rfl, (blk_cell BK130.out 1).trans rfl⟩ (fun hHeld => ?_)
              clear hK K
              refine norm_ (a' := ?_) ?_ ?_
              rotate_left
              · show Act.put _ (some 42) _ = _
                simp only [Act.put, List.setIfInBounds_toArray, List.set_cons_zero, List.set_cons_succ, i64_w, i32_w]
                rfl
              refine pure_ (i := 8) (N := some 43) (v := ?_) (a' := ?_) #[true, true, true, true, true, true, true, true, true, false, false, false, false, false] rfl rfl (any_of HT_.out (by kernel_rfl)) (fun _ _ _ h => h) (Or.inl ⟨by rfl, ?_⟩) ?_ ?_
              rotate_left
              · intro w'
                go_simp
                with_reducible rfl
              rotate_left
              · simp only [Act.put, List.setIfInBounds_toArray, List.set_cons_zero, List.set_cons_succ, i64_w, i32_w]
                rfl
              refine one_ (i := 9) (N := some 44) #[true, true, true, true, true, true, true, true, true, true, false, false, false, false] rfl rfl (one_of HT_.out (by kernel_rfl)) (by decide) (fun K hK => ?_)
              refine value_ (w1 := ?_) (v := ?_) (by rfl) rfl ?_ ?_
              rotate_left 2
              · go_simp
                constructor
                · rfl
                · rfl
              refine hK.out _ _ ⟨(blk_cell (blk_alloc BK130.out _) 0).trans rfl, (blk_cell (blk_alloc BK130.out _) 1).trans rfl⟩ (fun hHeld => ?_)
              clear hK K
              refine norm_ (a' := ?_) ?_ ?_
              rotate_left
              · show Act.put _ (some 44) _ = _
                simp only [Act.put, List.setIfInBounds_toArray, List.set_cons_zero, List.set_cons_succ, i64_w, i32_w]
                rfl
              refine one_ (i := 10) (N := some 45) #[true, true, true, true, true, true, true, true, true, true, true, false, false, false] rfl rfl (one_of HT_.out (by kernel_rfl)) (by decide) (fun K hK => ?_)
              refine Kd.N_append_step k45 (w0 := w) w.heap.size (by rfl) (.tmp 37) (.tmp 44) 39 45 (.agg #[(.int .i64 0), (.int .i64 0), (.slice none 0 0), (.bool false)]) 48 rfl Try.underlying39 info45 rfl (by decide) (by omega) v139 y138 (⟨a1, a2, y144, false⟩ : S45) [.int .i64 a1, .int .i64 a2, .slice Ao44 y144.length co44, .bool false] (fun k_ => (P0_1_ k_ ∨ w.heap.size ≤ k_) ∧ k_ ≠ gb130 ∧ k_ ≠ gb131) (fun k_ => ((fun k_ => (P0_1_ k_ ∨ w.heap.size ≤ k_) ∧ k_ ≠ gb130 ∧ k_ ≠ gb131)) k_ ∧ some k_ ≠ (v139 : Value).ownBlock) rfl rfl ?aP (fun _ hk => hk) ?aF ?aO ?aB ?aS ?aL ?_
              (case aP => exact (k45_mkF _ _ (⟨a1, a2, y144, false⟩ : S45) (Kd.R_reads' (Kd.R_mono (ok' := (fun k_ => ((fun k_ => (P0_1_ k_ ∨ w.heap.size ≤ k_) ∧ k_ ≠ gb130 ∧ k_ ≠ gb131)) k_ ∧ some k_ ≠ (v139 : Value).ownBlock)) (Kd.R_types (Kd.R_types (Kd.R_apart' (HO146.out) (Kd.N_typed HO140.out) (by decide)) BK130.out (by decide)) BK131.out (by decide)) (fun k_ hk => ⟨⟨(.inr (hk.1.1.1)), ⟨hk.1.2, hk.2⟩⟩, hk.1.1.2⟩))).2.1 (Kd.R_F (Kd.R_mono (ok' := (fun k_ => ((fun k_ => (P0_1_ k_ ∨ w.heap.size ≤ k_) ∧ k_ ≠ gb130 ∧ k_ ≠ gb131)) k_ ∧ some k_ ≠ (v139 : Value).ownBlock)) (Kd.R_types (Kd.R_types (Kd.R_apart' (HO146.out) (Kd.N_typed HO140.out) (by decide)) BK130.out (by decide)) BK131.out (by decide)) (fun k_ hk => ⟨⟨(.inr (hk.1.1.1)), ⟨hk.1.2, hk.2⟩⟩, hk.1.1.2⟩)))))
              (case aB => exact (by repeat (first | (with_reducible first | exact HB.out | apply below_alloc | apply pw_below_drewN | apply below_drew1 | refine below_set ?_ GE130.out | refine below_set ?_ GE131.out) | exact HB.out)))
              (case aF => exact (fun k_ hk => ⟨(.inr (Nat.le_trans (below_size (by repeat (first | (with_reducible first | exact HB.out | apply below_alloc | apply pw_below_drewN | apply below_drew1 | refine below_set ?_ GE130.out | refine below_set ?_ GE131.out) | exact HB.out))) hk)), Kd.freshB (g := gb130) (o := .cells #[.int .i64 a0_0, .slice A0_1 l0_1.length c0_1] 41 (0, 0)) (by (with_reducible repeat (first | refine blk_drewN ?_ _ | refine blk_drew ?_ | refine blk_alloc ?_ _)); exact BK130.out) k_ hk, Kd.freshB (g := gb131) (o := .cells #[.int .i64 0, .slice none 0 0] 41 (0, 0)) (by (with_reducible repeat (first | refine blk_drewN ?_ _ | refine blk_drew ?_ | refine blk_alloc ?_ _)); exact BK131.out) k_ hk⟩))
              (case aO => exact (by (with_reducible repeat (first | apply Kd.N_alloc | apply Kd.N_drewN | apply Kd.N_drew)); exact Kd.N_mono HO140.out (fun _ hk => ⟨hk.1.1, ⟨hk.1.2.1, hk.1.2.2⟩⟩)))
              (case aS => exact (below_size (by repeat (first | (with_reducible first | exact HB.out | apply below_alloc | apply pw_below_drewN | apply below_drew1 | refine below_set ?_ GE130.out | refine below_set ?_ GE131.out) | exact HB.out))))
              (case aL => have := LMc28.out; omega)
              intro v148 w45 ho hb hg hat
              rw [← Ny147.out] at ho
              have n0_ := Aside0.mk (Kd.V_afterv (ok := (fun k_ => (P0_1_ k_ ∨ w.heap.size ≤ k_) ∧ some k_ ≠ (.slice Ao44 y144.length co44 : Value).ownBlock ∧ k_ ≠ gb130 ∧ k_ ≠ gb131)) (by (with_reducible repeat (first | apply Kd.V_alloc | apply Kd.V_drewN | apply Kd.V_drew)); exact Kd.V_mono HO0_1.out (fun _ hk => ⟨⟨hk.1.1, ⟨hk.2, ⟨hk.1.2.2.1, hk.1.2.2.2⟩⟩⟩, hk.1.2.1⟩)) hg hat)
              have n1_ := Aside0.mk (blk_grown (g := gb130) (o := .cells #[.int .i64 a0_0, .slice A0_1 l0_1.length c0_1] 41 (0, 0)) (by (with_reducible repeat (first | refine blk_drewN ?_ _ | refine blk_drew ?_ | refine blk_alloc ?_ _)); exact BK130.out) hg (Kd.N_ne HO140.out BK130.out (by decide)))
              have n2_ := Aside0.mk (blk_grown (g := gb131) (o := .cells #[.int .i64 0, .slice none 0 0] 41 (0, 0)) (by (with_reducible repeat (first | refine blk_drewN ?_ _ | refine blk_drew ?_ | refine blk_alloc ?_ _)); exact BK131.out) hg (Kd.N_ne HO140.out BK131.out (by decide)))
              have n3_ := Aside0.mk (hb)
              have n4_ := Aside0.mk (ho)
              clear HO0_1
              clear BK130
              clear BK131
              clear HB
              clear HO140
              clear HO146
              have HO0_1 := n0_
              have BK130 := n1_
              have BK131 := n2_
              have HB := n3_
              have HO149 := n4_
              clear n0_ n1_ n2_ n3_ n4_
              clear ho hb hg hat
              obtain ⟨Ao46, co46, eo46⟩ := Kd.N_slice HO149.out
              (first | subst eo46 | (injection eo46 with f1_ f2_ f3_; have f4_ := f1_.symm; have f5_ := f3_.symm; clear f1_ f2_ f3_; subst f4_; subst f5_))
              refine hK.out _ _ ⟨(blk_cell BK130.out 0).trans rfl, (blk_cell BK130.out 1).trans rfl⟩ (fun hHeld => ?_)
              clear hK K
              refine norm_ (a' := ?_) ?_ ?_
              rotate_left
              · show Act.put _ (some 45) _ = _
                simp only [Act.put, List.setIfInBounds_toArray, List.set_cons_zero, List.set_cons_succ, i64_w, i32_w]
                rfl
              refine pure_ (i := 11) (N := some 46) (v := ?_) (a' := ?_) #[true, true, true, true, true, true, true, true, true, true, true, true, false, false] rfl rfl (any_of HT_.out (by kernel_rfl)) (fun _ _ _ h => h) (Or.inl ⟨by rfl, ?_⟩) ?_ ?_
              rotate_left
              · intro w'
                go_simp
                with_reducible rfl
              rotate_left
              · simp only [Act.put, List.setIfInBounds_toArray, List.set_cons_zero, List.set_cons_succ, i64_w, i32_w]
                rfl
              refine one_ (i := 12) (N := none) #[true, true, true, true, true, true, true, true, true, true, true, true, true, false] rfl rfl (one_of HT_.out (by kernel_rfl)) (by decide) (fun K hK => ?_)
              have hs47 : w45.cell? ⟨gb131, 0, none⟩ = some (.int .i64 0) := (blk_cell BK131.out 0).trans rfl
              have hfs47 := blk_frozen BK131.out 0
              have hns47_0 := NB130_131.out
              have hms47_0 := NB131_130.out
              have hs48 : w45.cell? ⟨gb131, 1, none⟩ = some (.slice none 0 0) := (blk_cell BK131.out 1).trans rfl
              have hfs48 := blk_frozen BK131.out 1
              have hns48_0 := NB130_131.out
              have hms48_0 := NB131_130.out
              refine skip_ (w1 := ?_) (by rfl) rfl ?_ ?_
              rotate_left
              · go_simp
                rfl
              refine hK.out _ _ ⟨((cell_far (p := ⟨gb131, _, none⟩) NB130_131.out _).trans (((cell_far (p := ⟨gb131, _, none⟩) NB130_131.out _).trans (hHeld.1)))), ((cell_far (p := ⟨gb131, _, none⟩) NB130_131.out _).trans (((cell_far (p := ⟨gb131, _, none⟩) NB130_131.out _).trans (hHeld.2))))⟩ (fun hHeld => ?_)
              clear hK K
              refine pure_ (i := 13) (N := some 9) (v := ?_) (a' := ?_) #[true, true, true, true, true, true, true, true, true, true, true, true, true, true] rfl rfl (any_of HT_.out (by kernel_rfl)) (fun _ _ _ h => h) (Or.inl ⟨by rfl, ?_⟩) ?_ ?_
              rotate_left
              · intro w'
                go_simp
                with_reducible rfl
              rotate_left
              · simp only [Act.put, List.setIfInBounds_toArray, List.set_cons_zero, List.set_cons_succ, i64_w, i32_w]
                rfl
              refine done_ (done_of HT_.out (by kernel_rfl)) ?_
              try go_wp2
              refine bodyPost_ret (results_ct rfl _ _ gb131 41 #[.int .i64 a0_0, .slice Ao46 y147.length co46] (0, 0) _ rfl (by (with_reducible repeat (first | refine blk_drewN ?_ _ | refine blk_drew ?_ | refine blk_alloc ?_ _)); refine blk_put (cs := #[.int .i64 a0_0, .slice none 0 0]) ?_ 1 _ rfl; (with_reducible repeat (first | refine blk_drewN ?_ _ | refine blk_drew ?_ | refine blk_alloc ?_ _)); refine blk_put (cs := #[.int .i64 0, .slice none 0 0]) ?_ 0 _ rfl; (with_reducible repeat (first | refine blk_drewN ?_ _ | refine blk_drew ?_ | refine blk_alloc ?_ _)); exact BK131.out) Try.underlying41 rfl (by kernel_rfl)) rfl ?_
              exact ⟨_, by first | rfl | (simp [errW_none, errW_some] <;> rfl) | (simp [*, errW_none, errW_some] <;> rfl), (by (with_reducible repeat (first | apply Kd.N_alloc | apply Kd.N_drewN | apply Kd.N_drew)); exact Kd.N_mono (Kd.N_far (p := ⟨gb131, 1, none⟩) (Kd.N_far (p := ⟨gb131, 0, none⟩) (Kd.N_mono HO149.out (fun k_ hk => (⟨hk, hk.2.2⟩ : _ ∧ k_ ≠ gb131))) (fun _ hk => hk.2) (.int .i64 a0_0)) (fun _ hk => hk.2) (.slice Ao46 y147.length co46)) (fun _ hk => hk.1.1)), by repeat (first | (with_reducible first | exact HB.out | apply below_alloc | apply pw_below_drewN | apply below_drew1 | refine below_set ?_ GE130.out | refine below_set ?_ GE131.out) | exact HB.out)⟩
            · rw [if_neg c28] at H
              exact absurd H (by simp)
          · rw [if_neg c27] at H
            exact absurd H (by simp)
        · rw [if_neg c26] at H
          exact absurd H (by simp)
  · rw [if_neg c6] at H
    have c6b0 : (t132 == 0) = false := beq_eq_false_iff_ne.mpr c6
    have c6b1 : (t132 != 0) = true := bne_iff_ne.mpr c6
    replace H := Option.bind_eq_some_iff.mp H
    obtain ⟨t133, A490, H⟩ := H
    replace H : (some (a0_0, l0_1, t133)) = some (r1, r2, r3) := H
    have A49 := Aside0.mk A490
    clear A490
    simp only [Option.some.injEq, Prod.mk.injEq] at H
    exact (hnz t132 A5.out (by simpa using c6b1)).elim

end Go.Proofs.Ytchepjbdaojidaa.PBags
namespace Go.Proofs.Ytchepjbdaojidaa.PBags
open Go.RowKit Go.Proofs.YtchepjbdaojidaaW.PrintWords Go.Proofs.YtchepjbdaojidaaW.PrintLast Go.Proofs.YtchepjbdaojidaaW.PrintMore
set_option linter.unusedVariables false
def onL (a b : Int) (s : S45) : Bool := decide (s.f0 = a ∧ s.f1 = b)
def fr (s : S45) : Frame := (s.f2, s.f3)
/-- Where the i-th frame of a link stands among all. -/
def placeN : List S45 → Int → Int → Nat → Option Nat
  | [], _, _, _ => none
  | s :: t, a, b, i => if onL a b s = true then (match i with | 0 => some 0 | j + 1 => (placeN t a b j).map (· + 1)) else (placeN t a b i).map (· + 1)
theorem place_some {a b : Int} : ∀ (ys : List S45) (i p : Nat), placeN ys a b i = some p → p < ys.length ∧ onL a b (ys.getD p z45) = true ∧ (ys.filter (onL a b))[i]? = ys[p]? ∧
    (ys.eraseIdx p).filter (onL a b) = (ys.filter (onL a b)).eraseIdx i ∧ (∀ s, onL a b s = true → (ys.set p s).filter (onL a b) = (ys.filter (onL a b)).set i s)
  | [], i, p, h => by cases h
  | s :: t, i, p, h => by
    unfold placeN at h
    by_cases c : onL a b s = true
    · rw [if_pos c] at h
      cases i with
      | zero =>
        obtain rfl : 0 = p := Option.some.inj h
        refine ⟨Nat.succ_pos _, c, ?_, ?_, fun s' hs' => ?_⟩
        · rw [List.filter_cons_of_pos c]; rfl
        · rw [List.filter_cons_of_pos c]; rfl
        · rw [List.filter_cons_of_pos c, List.set_cons_zero, List.filter_cons_of_pos hs', List.set_cons_zero]
      | succ j =>
        obtain ⟨q, hq, rfl⟩ := Option.map_eq_some_iff.1 h
        obtain ⟨h1, h2, h3, h4, h5⟩ := place_some t j q hq
        refine ⟨Nat.succ_lt_succ h1, h2, ?_, ?_, fun s' hs' => ?_⟩
        · rw [List.filter_cons_of_pos c, List.getElem?_cons_succ, List.getElem?_cons_succ, h3]
        · rw [List.filter_cons_of_pos c, List.eraseIdx_cons_succ, List.eraseIdx_cons_succ, List.filter_cons_of_pos c, h4]
        · rw [List.filter_cons_of_pos c, List.set_cons_succ, List.set_cons_succ, List.filter_cons_of_pos c, h5 s' hs']
    · rw [if_neg c] at h
      obtain ⟨q, hq, rfl⟩ := Option.map_eq_some_iff.1 h
      obtain ⟨h1, h2, h3, h4, h5⟩ := place_some t i q hq
      refine ⟨Nat.succ_lt_succ h1, h2, ?_, ?_, fun s' hs' => ?_⟩
      · rw [List.filter_cons_of_neg c, List.getElem?_cons_succ, h3]
      · rw [List.eraseIdx_cons_succ, List.filter_cons_of_neg c, List.filter_cons_of_neg c, h4]
      · rw [List.filter_cons_of_neg c, List.set_cons_succ, List.filter_cons_of_neg c, h5 s' hs']
theorem place_none {a b : Int} : ∀ (ys : List S45) (i : Nat), placeN ys a b i = none ↔ (ys.filter (onL a b)).length ≤ i
  | [], i => by simp [placeN]
  | s :: t, i => by
    unfold placeN
    by_cases c : onL a b s = true
    · rw [if_pos c, List.filter_cons_of_pos c, List.length_cons]
      cases i with
      | zero => simp
      | succ j => rw [Option.map_eq_none_iff, place_none t j]; omega
    · rw [if_neg c, List.filter_cons_of_neg c, Option.map_eq_none_iff, place_none t i]
/-- Another link's frames are not touched. -/
theorem other_erase {a b c d : Int} (hne : ¬ (c = a ∧ d = b)) : ∀ (ys : List S45) (p : Nat), onL a b (ys.getD p z45) = true → p < ys.length → (ys.eraseIdx p).filter (onL c d) = ys.filter (onL c d)
  | [], p, _, h => absurd h (Nat.not_lt_zero _)
  | s :: t, 0, h, _ => by
    have hs : onL a b s = true := h
    have hn : ¬ onL c d s = true := fun e => hne (by unfold onL at hs e; simp at hs e; omega)
    rw [List.filter_cons_of_neg hn]; rfl
  | s :: t, p + 1, h, hl => by
    rw [List.eraseIdx_cons_succ]
    have ih := other_erase hne t p h (Nat.lt_of_succ_lt_succ hl)
    by_cases e : onL c d s = true
    · rw [List.filter_cons_of_pos e, List.filter_cons_of_pos e, ih]
    · rw [List.filter_cons_of_neg e, List.filter_cons_of_neg e, ih]
theorem other_set {a b c d : Int} (hne : ¬ (c = a ∧ d = b)) {s' : S45} (hs' : onL a b s' = true) : ∀ (ys : List S45) (p : Nat), onL a b (ys.getD p z45) = true → p < ys.length → (ys.set p s').filter (onL c d) = ys.filter (onL c d)
  | [], p, _, h => absurd h (Nat.not_lt_zero _)
  | s :: t, 0, h, _ => by
    have hs : onL a b s = true := h
    have hn : ¬ onL c d s = true := fun e => hne (by unfold onL at hs e; simp at hs e; omega)
    have hn' : ¬ onL c d s' = true := fun e => hne (by unfold onL at hs' e; simp at hs' e; omega)
    rw [List.set_cons_zero, List.filter_cons_of_neg hn, List.filter_cons_of_neg hn']
  | s :: t, p + 1, h, hl => by
    rw [List.set_cons_succ]
    have ih := other_set hne hs' t p h (Nat.lt_of_succ_lt_succ hl)
    by_cases e : onL c d s = true
    · rw [List.filter_cons_of_pos e, List.filter_cons_of_pos e, ih]
    · rw [List.filter_cons_of_neg e, List.filter_cons_of_neg e, ih]
/-! ### The document's functions, as they are printed -/
theorem link_ref (k : Nat) (n : Nat) (ys : List S45) (a b : Int) : topiaryref08_Link.f (k + 1) (n : Int) ys a b = some (linkF n a b) := by
  unfold topiaryref08_Link.f linkF
  simp only [topiaryref08_Link.j0]
  by_cases h1 : a < 0
  · simp [h1]
  by_cases h2 : (n : Int) ≤ a
  · simp [h1, h2]
  by_cases h3 : b < 0
  · simp [h1, h2, h3]
  by_cases h4 : (n : Int) ≤ b
  · simp [h1, h2, h3, h4]
  by_cases h5 : a = b
  · subst h5; simp [h1, h2]
  · simp [h1, h2, h3, h4, h5]
theorem placeN_hit {a b : Int} {s : S45} (t : List S45) (h : onL a b s = true) : placeN (s :: t) a b 0 = some 0 := by simp [placeN, h]
theorem placeN_next {a b : Int} {s : S45} (t : List S45) (j : Nat) (h : onL a b s = true) : placeN (s :: t) a b (j + 1) = (placeN t a b j).map (· + 1) := by simp [placeN, h]
theorem placeN_miss {a b : Int} {s : S45} (t : List S45) (j : Nat) (h : ¬ onL a b s = true) : placeN (s :: t) a b j = (placeN t a b j).map (· + 1) := by simp [placeN, h]
theorem drop_cons {ys : List S45} {q : Nat} (h : q < ys.length) : ys.drop q = ys.getD q z45 :: ys.drop (q + 1) := by
  rw [List.drop_eq_getElem_cons h, List.getD_eq_getElem?_getD, List.getElem?_eq_getElem h]; rfl
def placeI (ys : List S45) (a b x : Int) (c q : Nat) : Int := if x < c then -1 else match placeN (ys.drop q) a b (x - c).toNat with | some p => ((q + p : Nat) : Int) | none => -1
theorem place_ref {ys : List S45} (hl : ys.length ≤ 1099511627776) (n a b x : Int) : ∀ (d q c k : Nat), ys.length - q ≤ d → c ≤ q → q ≤ ys.length → 2 * d + 1 ≤ k → topiaryref08_Place.l0 k a b x (c : Int) (q : Int) n ys = some (placeI ys a b x c q)
  | d, q, c, 0, _, _, _, h => by omega
  | d, q, c, k + 1, hd, hc, hq, hk => by
    simp only [topiaryref08_Place.l0]
    by_cases h1 : q < ys.length
    · obtain ⟨d, rfl⟩ : ∃ e, d = e + 1 := ⟨d - 1, by omega⟩
      obtain ⟨k, rfl⟩ : ∃ e, k = e + 1 := ⟨k - 1, by omega⟩
      rw [if_pos (by omega), if_pos (by omega)]
      have hrd : rd_T45 ys (q : Int) = ys.getD q z45 := by unfold rd_T45; rw [Int.toNat_natCast]
      have hw : wrap64 ((q : Int) + 1) = ((q + 1 : Nat) : Int) := by unfold wrap64; omega
      have hw2 : wrap64 ((c : Int) + 1) = ((c + 1 : Nat) : Int) := by unfold wrap64; omega
      have go := fun c' hc' => place_ref hl n a b x d (q + 1) c' k (by omega) hc' (by omega) (by omega)
      have hdr := drop_cons h1
      simp only [topiaryref08_Place.j1]
      rw [hrd, hw, hw2]
      by_cases h2 : onL a b (ys.getD q z45) = true
      · have h2' : (ys.getD q z45).f0 = a ∧ (ys.getD q z45).f1 = b := by unfold onL at h2; simpa using h2
        rw [if_pos h2'.1, h2'.2, if_neg (by simp)]
        by_cases h3 : (c : Int) = x
        · subst h3
          rw [if_pos rfl]
          unfold placeI
          rw [if_neg (by omega), hdr, Int.sub_self, Int.toNat_zero, placeN_hit _ h2]
          rfl
        · rw [if_neg h3, go (c + 1) (by omega)]
          congr 1
          unfold placeI
          by_cases h4 : x < (c : Int)
          · rw [if_pos h4, if_pos (by omega)]
          · rw [if_neg h4, if_neg (by omega), hdr]
            obtain ⟨j, hj⟩ : ∃ j : Nat, (x - (c : Int)).toNat = j + 1 := ⟨(x - (c : Int)).toNat - 1, by omega⟩
            rw [hj, show (x - ((c + 1 : Nat) : Int)).toNat = j from by omega, placeN_next _ _ h2]
            cases placeN (ys.drop (q + 1)) a b j with
            | none => rfl
            | some p => simp only [Option.map_some]; omega
      · have h2' : ¬ ((ys.getD q z45).f0 = a ∧ (ys.getD q z45).f1 = b) := by unfold onL at h2; simpa using h2
        have hfin : topiaryref08_Place.l0 k a b x (c : Int) ((q + 1 : Nat) : Int) n ys = some (placeI ys a b x c q) := by
          rw [go c (by omega)]
          congr 1
          unfold placeI
          by_cases h4 : x < (c : Int)
          · rw [if_pos h4, if_pos h4]
          · rw [if_neg h4, if_neg h4, hdr, placeN_miss _ _ h2]
            cases placeN (ys.drop (q + 1)) a b (x - (c : Int)).toNat with
            | none => rfl
            | some p => simp only [Option.map_some]; omega
        by_cases h5 : (ys.getD q z45).f0 = a
        · have h6 : ((ys.getD q z45).f1 != b) = true := by rw [bne_iff_ne]; exact fun e => h2' ⟨h5, e⟩
          rw [if_pos h5, if_pos h6, hfin]
        · rw [if_neg h5, if_pos trivial, hfin]
    · have hqe : q = ys.length := by omega
      rw [if_neg (by omega)]
      unfold placeI
      subst hqe
      rw [List.drop_length]
      split <;> rfl
theorem place_f {ys : List S45} (hl : ys.length ≤ 1099511627776) (n a b x : Int) (k : Nat) (hk : 2 * ys.length + 1 ≤ k) : topiaryref08_Place.f k n ys a b x = some (placeI ys a b x 0 0) :=
  place_ref hl n a b x ys.length 0 0 k (by omega) (Nat.le_refl _) (Nat.zero_le _) hk
theorem wait_ref {ys : List S45} (hl : ys.length ≤ 1099511627776) (n a b : Int) : ∀ (d q c k : Nat), ys.length - q ≤ d → c ≤ q → q ≤ ys.length → d + 1 ≤ k → topiaryref08_Waiting.l0 k a b (c : Int) (q : Int) n ys = some (((c + ((ys.drop q).filter (onL a b)).length : Nat) : Int))
  | d, q, c, 0, _, _, _, h => by omega
  | d, q, c, k + 1, hd, hc, hq, hk => by
    simp only [topiaryref08_Waiting.l0]
    by_cases h1 : q < ys.length
    · obtain ⟨d, rfl⟩ : ∃ e, d = e + 1 := ⟨d - 1, by omega⟩
      rw [if_pos (by omega), if_pos (by omega)]
      have hrd : rd_T45 ys (q : Int) = ys.getD q z45 := by unfold rd_T45; rw [Int.toNat_natCast]
      have hw : wrap64 ((q : Int) + 1) = ((q + 1 : Nat) : Int) := by unfold wrap64; omega
      have hw2 : wrap64 ((c : Int) + 1) = ((c + 1 : Nat) : Int) := by unfold wrap64; omega
      have go := fun c' hc' => wait_ref hl n a b d (q + 1) c' k (by omega) hc' (by omega) (by omega)
      have hdr := drop_cons h1
      rw [hrd, hw, hw2, hdr]
      by_cases h2 : onL a b (ys.getD q z45) = true
      · have h2' : (ys.getD q z45).f0 = a ∧ (ys.getD q z45).f1 = b := by unfold onL at h2; simpa using h2
        rw [if_pos h2'.1, if_pos h2'.2, go (c + 1) (by omega), List.filter_cons_of_pos h2, List.length_cons]
        congr 2
        omega
      · have h2' : ¬ ((ys.getD q z45).f0 = a ∧ (ys.getD q z45).f1 = b) := by unfold onL at h2; simpa using h2
        rw [List.filter_cons_of_neg h2]
        by_cases h5 : (ys.getD q z45).f0 = a
        · rw [if_pos h5, if_neg (fun e => h2' ⟨h5, e⟩), go c (by omega)]
        · rw [if_neg h5, go c (by omega)]
    · have hqe : q = ys.length := by omega
      rw [if_neg (by omega), hqe, List.drop_length]
      rfl
theorem wait_f {ys : List S45} (hl : ys.length ≤ 1099511627776) (n a b : Int) (k : Nat) (hk : ys.length + 1 ≤ k) : topiaryref08_Waiting.f k n ys a b = some (((ys.filter (onL a b)).length : Nat) : Int) := by
  have := wait_ref hl n a b ys.length 0 0 k (by omega) (Nat.le_refl _) (Nat.zero_le _) hk
  rw [List.drop_zero, Nat.zero_add] at this
  exact this
end Go.Proofs.Ytchepjbdaojidaa.PBags
namespace Go.Proofs.Ytchepjbdaojidaa.PBags
open Go.RowKit Go.Proofs.YtchepjbdaojidaaW.PrintWords Go.Proofs.YtchepjbdaojidaaW.PrintLast Go.Proofs.YtchepjbdaojidaaW.PrintMore
set_option linter.unusedVariables false
structure Tie (n : Nat) (bs : List (List Frame)) (ys : List S45) : Prop where
  len : bs.length = n * n
  ok : ∀ s ∈ ys, linkF n s.f0 s.f1 = 0
  eq : ∀ i j : Nat, i < n → j < n → bs.getD (i * n + j) [] = (ys.filter (onL (i : Int) (j : Int))).map fr
theorem key_nat (n i j : Nat) : key n (i : Int) (j : Int) = i * n + j := by unfold key; rw [Int.toNat_natCast, Int.toNat_natCast]
theorem key_inj {n i j c d : Nat} (hj : j < n) (hd : d < n) (h : i * n + j = c * n + d) : i = c ∧ j = d := by
  have h1 : (i * n + j) / n = i := by rw [Nat.mul_comm, Nat.mul_add_div (by omega), Nat.div_eq_of_lt hj, Nat.add_zero]
  have h2 : (c * n + d) / n = c := by rw [Nat.mul_comm, Nat.mul_add_div (by omega), Nat.div_eq_of_lt hd, Nat.add_zero]
  have h3 : i = c := by rw [← h1, ← h2, h]
  subst h3
  exact ⟨rfl, by omega⟩
theorem tie_empty (n : Nat) : Tie n (List.replicate (n * n) []) [] := by
  refine ⟨List.length_replicate, (fun s hs => by cases hs), fun i j hi hj => ?_⟩
  rw [List.getD_eq_getElem?_getD, List.getElem?_replicate]
  split <;> rfl
/-- A link's bag is its frames. -/
theorem tie_bag {n : Nat} {bs : List (List Frame)} {ys : List S45} (T : Tie n bs ys) {a b : Int} (h : linkF n a b = 0) : bs.getD (key n a b) [] = (ys.filter (onL a b)).map fr := by
  obtain ⟨i, j, rfl, rfl, hi, hj, _⟩ := linkF_ok h
  rw [key_nat]
  exact T.eq i j hi hj
theorem tie_count {n : Nat} {bs : List (List Frame)} {ys : List S45} (T : Tie n bs ys) {a b : Int} (h : linkF n a b = 0) : (ys.filter (onL a b)).length = (bs.getD (key n a b) []).length := by
  rw [tie_bag T h, List.length_map]
/-- How many in all. -/
theorem count_split (ys : List S45) (n m : Nat) : (ys.filter (fun s => decide (key n s.f0 s.f1 < m + 1))).length = (ys.filter (fun s => decide (key n s.f0 s.f1 < m))).length + (ys.filter (fun s => decide (key n s.f0 s.f1 = m))).length := by
  induction ys with
  | nil => rfl
  | cons s t ih =>
    by_cases h1 : key n s.f0 s.f1 < m
    · rw [List.filter_cons_of_pos (by simp; omega), List.filter_cons_of_pos (by simpa using h1), List.filter_cons_of_neg (by simp; omega), List.length_cons, List.length_cons, ih]; omega
    · by_cases h2 : key n s.f0 s.f1 = m
      · rw [List.filter_cons_of_pos (by simp; omega), List.filter_cons_of_neg (by simpa using h1), List.filter_cons_of_pos (by simpa using h2), List.length_cons, List.length_cons, ih]; omega
      · rw [List.filter_cons_of_neg (by simp; omega), List.filter_cons_of_neg (by simpa using h1), List.filter_cons_of_neg (by simpa using h2), ih]
theorem on_key {n : Nat} {s : S45} {i j : Nat} (hs : linkF n s.f0 s.f1 = 0) (hi : i < n) (hj : j < n) : onL (i : Int) (j : Int) s = decide (key n s.f0 s.f1 = i * n + j) := by
  obtain ⟨c, d, e1, e2, hc, hd, _⟩ := linkF_ok hs
  unfold onL
  rw [e1, e2, key_nat]
  by_cases h : c = i ∧ d = j
  · rw [decide_eq_true (by omega), decide_eq_true (by rw [h.1, h.2])]
  · rw [decide_eq_false (by omega), decide_eq_false (fun e => h (key_inj hd hj e))]
theorem tie_key {n : Nat} {bs : List (List Frame)} {ys : List S45} (T : Tie n bs ys) {k : Nat} (hk : k < n * n) : (bs.getD k []).length = (ys.filter (fun s => decide (key n s.f0 s.f1 = k))).length := by
  have hn : 0 < n := by cases n with
    | zero => simp at hk
    | succ n => omega
  have hi : k / n < n := Nat.div_lt_of_lt_mul hk
  have hj : k % n < n := Nat.mod_lt _ hn
  have e : k / n * n + k % n = k := by rw [Nat.mul_comm]; exact Nat.div_add_mod k n
  have h := T.eq (k / n) (k % n) hi hj
  rw [e] at h
  rw [h, List.length_map]
  congr 1
  apply List.filter_congr
  intro s hs
  rw [on_key (T.ok s hs) hi hj, e]
theorem tie_len {n : Nat} {bs : List (List Frame)} {ys : List S45} (T : Tie n bs ys) : countF bs (n * n) = ys.length := by
  have h : ∀ m, m ≤ n * n → countF bs m = (ys.filter (fun s => decide (key n s.f0 s.f1 < m))).length := by
    intro m
    induction m with
    | zero =>
      intro _
      rw [List.filter_eq_nil_iff.2 (fun s _ => by simp)]
      rfl
    | succ m ih =>
      intro hm
      rw [count_split, ← ih (by omega), ← tie_key T (by omega)]
      rfl
  rw [h _ (Nat.le_refl _), List.filter_eq_self.2]
  intro s hs
  obtain ⟨c, d, e1, e2, hc, hd, _⟩ := linkF_ok (T.ok s hs)
  rw [e1, e2, key_nat]
  exact decide_eq_true (key_lt hc hd)
theorem tie_small {n : Nat} {bs : List (List Frame)} {ys : List S45} (T : Tie n bs ys) (hs : Small bs) (hn : n ≤ 64) : ys.length ≤ 1048576 := by
  rw [← tie_len T]
  have := count_le hs (n * n)
  have h2 : n * n ≤ 64 * 64 := Nat.mul_le_mul hn hn
  omega
theorem getD_set_other {α : Type} (xs : List α) (k q : Nat) (x d : α) (h : k ≠ q) : (xs.set k x).getD q d = xs.getD q d := by
  rw [List.getD_eq_getElem?_getD, List.getElem?_set_ne h, ← List.getD_eq_getElem?_getD]
theorem getD_set_same {α : Type} (xs : List α) (k : Nat) (x d : α) (h : k < xs.length) : (xs.set k x).getD k d = x := by rw [List.getD_eq_getElem?_getD, List.getElem?_set_self h]; rfl
/-- A link's frames change, and so does its bag. -/
theorem tie_turn {n : Nat} {bs : List (List Frame)} {ys ys' : List S45} (T : Tie n bs ys) {a b : Int} (h : linkF n a b = 0) (hok : ∀ s ∈ ys', linkF n s.f0 s.f1 = 0) (hot : ∀ c d, ¬ (c = a ∧ d = b) → ys'.filter (onL c d) = ys.filter (onL c d)) {fs : List Frame} (hfs : (ys'.filter (onL a b)).map fr = fs) :
    Tie n (bs.set (key n a b) fs) ys' := by
  obtain ⟨i, j, rfl, rfl, hi, hj, _⟩ := linkF_ok h
  rw [key_nat]
  refine ⟨by rw [List.length_set, T.len], hok, fun c d hc hd => ?_⟩
  by_cases e : c = i ∧ d = j
  · obtain ⟨rfl, rfl⟩ := e
    rw [getD_set_same _ _ _ _ (by rw [T.len]; exact key_lt hi hj), hfs]
  · rw [getD_set_other _ _ _ _ _ (fun e2 => e (by have := key_inj hj hd e2; omega)), T.eq c d hc hd, hot _ _ (by omega)]
theorem tie_put {n : Nat} {bs : List (List Frame)} {ys : List S45} (T : Tie n bs ys) {a b : Int} (h : linkF n a b = 0) (l : List Int) (sp : Bool) :
    Tie n (bs.set (key n a b) (bs.getD (key n a b) [] ++ [(l, sp)])) (ys ++ [⟨a, b, l, sp⟩]) := by
  refine tie_turn T h (fun s hs => ?_) (fun c d hne => ?_) ?_
  · rcases List.mem_append.1 hs with hs | hs
    · exact T.ok s hs
    · rw [List.mem_singleton.1 hs]; exact h
  · rw [List.filter_append, List.filter_cons_of_neg (by unfold onL; simp; omega)]; exact List.append_nil _
  · rw [List.filter_append, List.filter_cons_of_pos (by unfold onL; simp), List.map_append, ← tie_bag T h]; rfl
/-! ### A frame's place -/
theorem frame_four {n : Nat} {bs : List (List Frame)} {a b x : Int} (h : linkF n a b = 0) (hf : frameF n bs a b x ≠ 0) : frameF n bs a b x = 4 ∧ (x < 0 ∨ ((bs.getD (key n a b) []).length : Int) ≤ x) := by
  unfold frameF at hf ⊢
  rw [if_pos h] at hf ⊢
  split at hf
  · rename_i h2; rw [if_pos h2]; exact ⟨rfl, h2⟩
  · exact absurd rfl hf
theorem tie_none {n : Nat} {bs : List (List Frame)} {ys : List S45} (T : Tie n bs ys) {a b x : Int} (h : linkF n a b = 0) (hf : frameF n bs a b x ≠ 0) : placeI ys a b x 0 0 = -1 := by
  obtain ⟨_, h2⟩ := frame_four h hf
  unfold placeI
  split
  · rfl
  · rename_i h3
    have h4 : placeN (ys.drop 0) a b (x - (0 : Nat)).toNat = none := by
      rw [List.drop_zero, place_none, tie_count T h]
      omega
    rw [h4]
theorem tie_place {n : Nat} {bs : List (List Frame)} {ys : List S45} (T : Tie n bs ys) {a b x : Int} (hf : frameF n bs a b x = 0) :
    ∃ p : Nat, placeI ys a b x 0 0 = (p : Int) ∧ placeN ys a b x.toNat = some p ∧ p < ys.length ∧ fr (ys.getD p z45) = frameAt n bs a b x := by
  obtain ⟨h, q, rfl, hq⟩ := frameF_ok hf
  cases hp : placeN ys a b q with
  | none => rw [place_none, tie_count T h] at hp; omega
  | some p =>
    refine ⟨p, ?_, ?_, (place_some ys q p hp).1, ?_⟩
    · unfold placeI
      rw [if_neg (by omega), List.drop_zero, show ((q : Int) - (0 : Nat)).toNat = q from by omega, hp]
      simp
    · rw [Int.toNat_natCast]; exact hp
    · obtain ⟨h1, _, h3, _, _⟩ := place_some ys q p hp
      unfold frameAt
      rw [Int.toNat_natCast, tie_bag T h, List.getD_eq_getElem?_getD, List.getD_eq_getElem?_getD, List.getElem?_map, h3, List.getElem?_eq_getElem h1]
      rfl
theorem map_erase : ∀ (xs : List S45) (i : Nat), (xs.eraseIdx i).map fr = (xs.map fr).eraseIdx i
  | [], _ => rfl
  | _ :: _, 0 => rfl
  | x :: t, i + 1 => by rw [List.eraseIdx_cons_succ, List.map_cons, List.map_cons, List.eraseIdx_cons_succ, map_erase t i]
theorem tie_erase {n : Nat} {bs : List (List Frame)} {ys : List S45} (T : Tie n bs ys) {a b x : Int} (hf : frameF n bs a b x = 0) {p : Nat} (hp : placeN ys a b x.toNat = some p) : Tie n (loseF n bs a b x).2 (ys.eraseIdx p) := by
  obtain ⟨h, q, rfl, hq⟩ := frameF_ok hf
  rw [Int.toNat_natCast] at hp
  obtain ⟨h1, h2, h3, h4, h5⟩ := place_some ys q p hp
  unfold loseF
  rw [if_pos hf, Int.toNat_natCast]
  refine tie_turn T h (fun s hs => T.ok s (List.mem_of_mem_eraseIdx hs)) (fun c d hne => other_erase hne ys p h2 h1) ?_
  rw [h4, tie_bag T h, map_erase]
theorem tie_set {n : Nat} {bs : List (List Frame)} {ys : List S45} (T : Tie n bs ys) {a b x : Int} (hf : frameF n bs a b x = 0) {p : Nat} (hp : placeN ys a b x.toNat = some p) (l : List Int) (sp : Bool) :
    Tie n (bs.set (key n a b) ((bs.getD (key n a b) []).set x.toNat (l, sp))) (ys.set p ⟨a, b, l, sp⟩) := by
  obtain ⟨h, q, rfl, hq⟩ := frameF_ok hf
  rw [Int.toNat_natCast] at hp ⊢
  obtain ⟨h1, h2, h3, h4, h5⟩ := place_some ys q p hp
  have hon : onL a b ⟨a, b, l, sp⟩ = true := by unfold onL; simp
  refine tie_turn T h (fun s hs => ?_) (fun c d hne => other_set hne hon ys p h2 h1) ?_
  · rcases List.mem_or_eq_of_mem_set hs with hs | hs
    · exact T.ok s hs
    · rw [hs]; exact h
  · rw [h5 _ hon, tie_bag T h, List.map_set]; rfl
end Go.Proofs.Ytchepjbdaojidaa.PBags
namespace Go.Proofs.Ytchepjbdaojidaa.PBags
open Go.RowKit Go.Proofs.YtchepjbdaojidaaW.PrintWords Go.Proofs.YtchepjbdaojidaaW.PrintLast Go.Proofs.YtchepjbdaojidaaW.PrintMore
set_option linter.unusedVariables false
variable {n : Nat} {bs : List (List Frame)} {ys : List S45}
theorem peek_f (T : Tie n bs ys) (hl : ys.length ≤ 1048576) (a b x : Int) (k : Nat) (hk : 2 * ys.length + 2 ≤ k) : topiaryref08_Peek.f k (n : Int) ys a b x = some (peekF n bs a b x) := by
  obtain ⟨k, rfl⟩ : ∃ j, k = j + 1 := ⟨k - 1, by omega⟩
  unfold topiaryref08_Peek.f peekF
  rw [link_ref, Option.bind_some]
  by_cases hc : linkF n a b = 0
  · rw [if_pos hc, place_f (by omega) _ _ _ _ _ (by omega), Option.bind_some]
    by_cases hf : frameF n bs a b x = 0
    · obtain ⟨p, h1, h2, h3, h4⟩ := tie_place T hf
      rw [if_pos hf, h1, if_neg (by omega), if_pos (by omega), if_pos (by omega)]
      have h5 : (rd_T45 ys (p : Int)).f2 = (frameAt n bs a b x).1 := by unfold rd_T45; rw [Int.toNat_natCast, ← h4]; rfl
      rw [h5]; rfl
    · rw [if_neg hf, tie_none T hc hf, if_pos (by omega), (frame_four hc hf).1]
  · rw [if_neg hc, Option.bind_some]
    have hf : frameF n bs a b x = linkF n a b := by unfold frameF; rw [if_neg hc]
    rw [hf, if_neg hc]
theorem peek_frame {a b x : Int} : (peekF n bs a b x).2 = frameF n bs a b x := by
  unfold peekF
  split
  · rename_i h; rw [h]
  · rfl
theorem send_f (T : Tie n bs ys) (hs : Small bs) (hl : ys.length ≤ 1048576) (a b : Int) (l : List Int) (k : Nat) (hk : 2 * ys.length + 2 ≤ k) :
    ∃ ys', topiaryref08_Send.f k (n : Int) ys a b l = some ((n : Int), ys', (putF n bs a b (l, false)).1) ∧ Tie n (putF n bs a b (l, false)).2 ys' ∧ ((putF n bs a b (l, false)).1 = 0 → linkF n a b = 0 ∧ ys' = ys ++ [⟨a, b, l, false⟩]) := by
  obtain ⟨k, rfl⟩ : ∃ j, k = j + 1 := ⟨k - 1, by omega⟩
  unfold topiaryref08_Send.f putF
  rw [link_ref, Option.bind_some]
  by_cases hc : linkF n a b = 0
  · rw [if_pos hc, if_pos hc]
    by_cases h1 : 65545 < l.length
    · rw [if_pos (by omega), if_pos h1]
      exact ⟨ys, rfl, T, fun h => by cases h⟩
    rw [if_neg (by omega), if_neg (by simpa using h1), wait_f (by omega) _ _ _ _ (by omega), Option.bind_some, tie_count T hc]
    have hsm := (hs (key n a b)).1
    by_cases h2 : (bs.getD (key n a b) []).length = 256
    · rw [if_pos (by omega), if_pos h2]
      exact ⟨ys, rfl, T, fun h => by cases h⟩
    rw [if_neg (by omega), if_neg h2, Option.bind_some, if_pos (by simp; omega), Option.bind_some, Option.bind_some, List.nil_append, List.nil_append, if_pos (by simp; omega), if_pos (by omega)]
    exact ⟨_, rfl, tie_put T hc l false, fun _ => ⟨hc, rfl⟩⟩
  · rw [if_neg hc, if_neg hc, Option.bind_some]
    exact ⟨ys, rfl, T, fun h => absurd h hc⟩
theorem deliver_f (T : Tie n bs ys) (hl : ys.length ≤ 1048576) (a b x : Int) (k : Nat) (hk : 2 * ys.length + 2 ≤ k) :
    ∃ ys', topiaryref08_Deliver.f k (n : Int) ys a b x = some ((n : Int), ys', (peekF n bs a b x).1, (peekF n bs a b x).2) ∧ Tie n (loseF n bs a b x).2 ys' := by
  unfold topiaryref08_Deliver.f
  rw [peek_f T hl a b x k hk, Option.bind_some, peek_frame]
  by_cases hf : frameF n bs a b x = 0
  · obtain ⟨p, h1, h2, h3, h4⟩ := tie_place T hf
    have hw : wrap64 ((p : Int) + 1) = ((p + 1 : Nat) : Int) := by unfold wrap64; omega
    rw [if_pos hf, place_f (by omega) _ _ _ _ _ (by omega), Option.bind_some, Option.bind_some, h1, if_pos (by omega), if_pos (by omega), Option.bind_some, List.nil_append, if_pos (by simp; omega), Option.bind_some, hw, if_pos (by omega), if_pos (by omega), Option.bind_some, if_pos (by simp; omega), hf]
    refine ⟨ys.eraseIdx p, ?_, tie_erase T hf h2⟩
    rw [Int.toNat_natCast, Int.toNat_natCast, List.eraseIdx_eq_take_drop_succ]
  · have hp : peekF n bs a b x = ([], frameF n bs a b x) := by unfold peekF; rw [if_neg hf]
    rw [if_neg hf, hp]
    refine ⟨ys, rfl, ?_⟩
    unfold loseF
    rw [if_neg hf]
    exact T
theorem spoil_f (T : Tie n bs ys) (hs : Small bs) (hl : ys.length ≤ 1048576) (a b x p m : Int) (k : Nat) (hk : 2 * ys.length + 2 ≤ k) :
    ∃ ys', topiaryref08_Spoil.f k (n : Int) ys a b x p m = some ((n : Int), ys', (spoilF n bs a b x p m).1) ∧ Tie n (spoilF n bs a b x p m).2 ys' := by
  unfold topiaryref08_Spoil.f spoilF
  rw [peek_f T hl a b x k hk, Option.bind_some, peek_frame]
  by_cases hf : frameF n bs a b x = 0
  · obtain ⟨q, h1, h2, h3, h4⟩ := tie_place T hf
    have h5 : (rd_T45 ys (q : Int)).f3 = (frameAt n bs a b x).2 := by unfold rd_T45; rw [Int.toNat_natCast, ← h4]; rfl
    have h6 : (peekF n bs a b x).1 = (frameAt n bs a b x).1 := by unfold peekF; rw [if_pos hf]; rfl
    have h7 : (frameAt n bs a b x).1.length ≤ 65545 := by
      obtain ⟨_, z, rfl, hz⟩ := frameF_ok hf
      unfold frameAt
      rw [Int.toNat_natCast]
      exact (hs (key n a b)).2 _ (mem_getD hz)
    rw [if_pos hf, if_pos hf, place_f (by omega) _ _ _ _ _ (by omega), Option.bind_some, h1, if_pos (by omega), if_pos (by omega), h5, h6]
    split
    · exact ⟨ys, rfl, T⟩
    · obtain ⟨k, rfl⟩ : ∃ j, k = j + 1 := ⟨k - 1, by omega⟩
      rw [turn_ref (by omega), Option.bind_some]
      split
      · rw [Option.bind_some, List.nil_append, if_pos (by simp; omega), Option.bind_some, if_pos (by omega)]
        refine ⟨_, rfl, ?_⟩
        rw [Int.toNat_natCast]
        exact tie_set T hf h2 _ _
      · exact ⟨ys, rfl, T⟩
  · have hp : peekF n bs a b x = ([], frameF n bs a b x) := by unfold peekF; rw [if_neg hf]
    rw [if_neg hf, if_neg hf]
    exact ⟨ys, rfl, T⟩
/-! ### The links that have frames -/
theorem wayAt_of (T : Tie n bs ys) {i j : Nat} (hi : i < n) (hj : j < n) : wayAt n bs (i * n + j) = if (ys.filter (onL (i : Int) (j : Int))).length = 0 then [] else [⟨(i : Int), (j : Int), ((ys.filter (onL (i : Int) (j : Int))).length : Int)⟩] := by
  have h1 : (i * n + j) / n = i := by rw [Nat.mul_comm, Nat.mul_add_div (by omega), Nat.div_eq_of_lt hj, Nat.add_zero]
  have h2 : (i * n + j) % n = j := by rw [Nat.mul_comm, Nat.mul_add_mod, Nat.mod_eq_of_lt hj]
  unfold wayAt
  rw [T.eq i j hi hj, List.length_map, h1, h2]
theorem ev_wait (hl : ys.length ≤ 1048576) (a b : Int) : Ev (fun k => topiaryref08_Waiting.f k (n : Int) ys a b) (((ys.filter (onL a b)).length : Nat) : Int) := ⟨ys.length + 1, fun k hk => wait_f (by omega) _ _ _ _ hk⟩
theorem ways_row (T : Tie n bs ys) (hn : n ≤ 64) (hl : ys.length ≤ 1048576) {i : Nat} (hi : i < n) {r : List S55} (next : Ev (fun k => topiaryref08_Ways.l0 k (waysL n bs (i * n + n)) ((i + 1 : Nat) : Int) (n : Int) ys) r) :
    ∀ (e j : Nat), n - j ≤ e → j ≤ n → Ev (fun k => topiaryref08_Ways.l1 k (waysL n bs (i * n + j)) (i : Int) (j : Int) (n : Int) ys) r := by
  have hlast : Ev (fun k => topiaryref08_Ways.l1 k (waysL n bs (i * n + n)) (i : Int) (n : Int) (n : Int) ys) r := by
    refine Ev.step (f := fun k => topiaryref08_Ways.l0 k (waysL n bs (i * n + n)) ((i + 1 : Nat) : Int) (n : Int) ys) (fun k => ?_) next
    have hw : wrap64 ((i : Int) + 1) = ((i + 1 : Nat) : Int) := by clear next; unfold wrap64; omega
    simp only [topiaryref08_Ways.l1]
    rw [if_neg (Int.lt_irrefl _), hw]
  intro e
  induction e with
  | zero =>
    intro j he hj
    obtain rfl : j = n := by omega
    exact hlast
  | succ e ihe =>
    intro j he hj
    by_cases h1 : j < n
    · have hw : wrap64 ((j : Int) + 1) = ((j + 1 : Nat) : Int) := by clear next hlast ihe; unfold wrap64; omega
      have hst : waysL n bs (i * n + (j + 1)) = waysL n bs (i * n + j) ++ wayAt n bs (i * n + j) := rfl
      have go := ihe (j + 1) (by omega) (by omega)
      rw [hst, wayAt_of T hi h1] at go
      have hwl : (waysL n bs (i * n + j)).length < 5864062014805 := by
        have h2 := ways_length n bs (i * n + j)
        have h3 := key_lt hi h1
        have h4 : n * n ≤ 64 * 64 := Nat.mul_le_mul hn hn
        clear next hlast ihe go hst
        generalize i * n + j = q at *
        omega
      have hst1 : ∀ k, topiaryref08_Ways.l1 (k + 1) (waysL n bs (i * n + j)) (i : Int) (j : Int) (n : Int) ys = (topiaryref08_Waiting.f k (n : Int) ys (i : Int) (j : Int)).bind (fun t237 => (if t237 > 0 then (if (waysL n bs (i * n + j)).length < 5864062014805 then (topiaryref08_Ways.l1 k (waysL n bs (i * n + j) ++ [(⟨(i : Int), (j : Int), t237⟩ : S55)]) (i : Int) (wrap64 ((j : Int) + 1)) (n : Int) ys) else (none)) else (topiaryref08_Ways.l1 k (waysL n bs (i * n + j)) (i : Int) (wrap64 ((j : Int) + 1)) (n : Int) ys))) := fun k => by
        simp only [topiaryref08_Ways.l1]
        rw [if_pos (Int.ofNat_lt.2 h1)]
      refine Ev.step hst1 ?_
      refine Ev.bind (f := fun k t237 => (if t237 > 0 then (if (waysL n bs (i * n + j)).length < 5864062014805 then (topiaryref08_Ways.l1 k (waysL n bs (i * n + j) ++ [(⟨(i : Int), (j : Int), t237⟩ : S55)]) (i : Int) (wrap64 ((j : Int) + 1)) (n : Int) ys) else (none)) else (topiaryref08_Ways.l1 k (waysL n bs (i * n + j)) (i : Int) (wrap64 ((j : Int) + 1)) (n : Int) ys))) (ev_wait hl _ _) ?_
      by_cases h2 : (ys.filter (onL (i : Int) (j : Int))).length = 0
      · rw [if_pos h2, List.append_nil] at go
        refine Ev.congr (fun k => ?_) go
        rw [if_neg (by rw [h2]; decide), hw]
      · rw [if_neg h2] at go
        refine Ev.congr (fun k => ?_) go
        rw [if_pos (Int.natCast_pos.2 (Nat.pos_of_ne_zero h2)), if_pos hwl, hw]
    · exact ihe j (by omega) hj
theorem ways_all (T : Tie n bs ys) (hn : n ≤ 64) (hl : ys.length ≤ 1048576) : ∀ (d i : Nat), n - i ≤ d → i ≤ n → Ev (fun k => topiaryref08_Ways.l0 k (waysL n bs (i * n)) (i : Int) (n : Int) ys) (waysL n bs (n * n)) := by
  have hlast : Ev (fun k => topiaryref08_Ways.l0 k (waysL n bs (n * n)) (n : Int) (n : Int) ys) (waysL n bs (n * n)) := by
    refine Ev.step (f := fun _ => some (waysL n bs (n * n))) (fun k => ?_) (Ev.now _)
    simp only [topiaryref08_Ways.l0]
    rw [if_neg (Int.lt_irrefl _)]
  intro d
  induction d with
  | zero =>
    intro i hd hi
    obtain rfl : i = n := by omega
    exact hlast
  | succ d ih =>
    intro i hd hi
    by_cases h1 : i < n
    · have h2 := ih (i + 1) (by omega) (by omega)
      rw [show (i + 1) * n = i * n + n from by rw [Nat.add_mul, Nat.one_mul]] at h2
      refine Ev.step (f := fun k => topiaryref08_Ways.l1 k (waysL n bs (i * n)) (i : Int) 0 (n : Int) ys) (fun k => ?_) (ways_row T hn hl h1 h2 n 0 (Nat.le_refl _) (Nat.zero_le _))
      simp only [topiaryref08_Ways.l0]
      rw [if_pos (Int.ofNat_lt.2 h1)]
    · exact ih i (by omega) hi
theorem ways_f (T : Tie n bs ys) (hn : n ≤ 64) (hl : ys.length ≤ 1048576) : ∃ k, topiaryref08_Ways.f k (n : Int) ys = some (waysL n bs (n * n)) := by
  have h := ways_all T hn hl n 0 (Nat.le_refl _) (Nat.zero_le _)
  rw [Nat.zero_mul] at h
  exact h.rounds
end Go.Proofs.Ytchepjbdaojidaa.PBags
namespace Go.Proofs.Ytchepjbdaojidaa.PBags
open Go.RowKit Go.Proofs.YtchepjbdaojidaaW.PrintWords Go.Proofs.YtchepjbdaojidaaW.PrintLast Go.Proofs.YtchepjbdaojidaaW.PrintMore
attribute [local go_sem] max2_int min2_int max_two min_two max_three min_three max_four min_four
set_option linter.unusedVariables false
set_option linter.unusedSimpArgs false
def rdb.T7 : Bool × List (List Nat × List Nat) := (true, [([], []), ([0], [0]), ([], []), ([2], [2]), ([3], [3]), ([4], [4]), ([], []), ([6], [6]), ([], []), ([], []), ([], []), ([], []), ([8, 9, 10, 11], [8, 9, 10, 11]), ([7, 12], [7, 12]), ([13], [13]), ([14], [14]), ([1, 5, 0, 1, 2, 3, 4, 5, 6, 7, 8, 9, 10, 11, 12, 13, 14, 15], [1, 5]), ([16, 0, 1, 2, 3, 4, 5, 6, 7, 8, 9, 10, 11, 12, 13, 14, 15], [16]), ([17, 15, 12, 0, 1, 2, 3, 4, 5, 6, 7, 8, 9, 10, 11, 12, 13, 14, 15], [15, 17])])
def rdb.B7 : List Nat := [0, 1, 0, 4, 12, 28, 0, 64, 0, 0, 0, 0, 3840, 8128, 16320, 32704, 65535, 131071, 262143]
theorem rdb.tab7 : rtab .any (opsOf Try.f34 7) = rdb.T7 := by kernel_rfl
theorem rdb.bits7 : waitsOk rdb.T7.2 rdb.B7 = true := by kernel_rfl
theorem V_base {α : Type} {d : Kd α} {e base base' : Nat} {W : World} {ok : Nat → Prop} {v : Value} {xs : List α} (h : Kd.V d e W base ok v xs) : Kd.V d e W base' ok v xs := h
theorem send_mine {n : Nat} {bs : List (List Frame)} {ys : List S45} (T : Tie n bs ys) (hs : Small bs) (hl : ys.length ≤ 1048576) {a b : Int} {l : List Int} (P : Nat → Prop) (A : Option Addr) (c : Nat) (A3 : Option Addr) (c3 : Nat) (w : World) (hV : Kd.V k45 45 w w.heap.size P (.slice A ys.length c) ys)
    (hr : Kd.C (Kd.int .u8) w A3 l.length l) (hc : l.length ≤ c3) (h0 : (putF n bs a b (l, false)).1 = 0) :
    Calls Try.prog 32 #[.agg #[.int .i64 (n : Int), .slice A ys.length c], .int .i64 a, .int .i64 b, .slice A3 l.length c3] w fun e w' => ∃ v, e = .returned (.tuple #[.agg #[.int .i64 (n : Int), v], .int .i64 0]) ∧ Kd.N k45 45 w' w.heap.size (fun k => P k ∨ w.heap.size ≤ k) v (ys ++ [⟨a, b, l, false⟩]) ∧ Below w.heap.size w w' := by
  obtain ⟨ys', h1, h2, h3⟩ := send_f T hs hl a b l (2 * ys.length + 2) (Nat.le_refl _)
  obtain ⟨hlk, rfl⟩ := h3 h0
  rw [h0] at h1
  exact send_own _ (n : Int) P A c ys a b A3 c3 l (n : Int) _ 0 w hV hr hc h1 rfl (fun t ht hn => hn (by rw [link_ref (2 * ys.length + 1) n ys a b, hlk] at ht; exact (Option.some.inj ht).symm))
theorem put_code1 (n : Nat) (bs : List (List Frame)) (a b : Int) (l : List Int) (s1 s2 : Bool) : (putF n bs a b (l, s1)).1 = (putF n bs a b (l, s2)).1 := by
  unfold putF
  split
  · dsimp only
    split
    · rfl
    · split <;> rfl
  · rfl
theorem put_err {n : Nat} {bs : List (List Frame)} {a b : Int} {l : List Int} {sp : Bool} (h : (putF n bs a b (l, sp)).1 ≠ 0) : (putF n bs a b (l, sp)).2 = bs := by
  unfold putF at h ⊢
  split
  · rename_i h1
    rw [if_pos h1] at h
    dsimp only at h ⊢
    split
    · rfl
    · rename_i h2
      rw [if_neg h2] at h
      split
      · rfl
      · rename_i h3
        rw [if_neg h3] at h
        exact absurd rfl h
  · rfl
theorem put_ok {n : Nat} {bs : List (List Frame)} {a b : Int} {l : List Int} {sp : Bool} (h : (putF n bs a b (l, sp)).1 = 0) : linkF n a b = 0 ∧ putF n bs a b (l, sp) = (0, bs.set (key n a b) (bs.getD (key n a b) [] ++ [(l, sp)])) := by
  unfold putF at h ⊢
  split
  · rename_i h1
    refine ⟨h1, ?_⟩
    rw [if_pos h1] at h
    dsimp only at h ⊢
    split
    · rename_i h2
      rw [if_pos h2] at h
      cases h
    · rename_i h2
      rw [if_neg h2] at h
      split
      · rename_i h3
        rw [if_pos h3] at h
        cases h
      · rfl
  · rename_i h1
    rw [if_neg h1] at h
    exact absurd h h1
theorem ret41 {w : World} {g : Nat} {u0 u1 : Value} (h : w.heap[g]? = some (.cells #[u0, u1] 41 (0, 0))) (v0 v1 : Value) : ((w.setCell ⟨g, 0, none⟩ v0).setCell ⟨g, 1, none⟩ v1).heap[g]? = some (.cells #[v0, v1] 41 (0, 0)) :=
  blk_put (cs := #[v0, u1]) (blk_put (cs := #[u0, u1]) h 0 _ rfl) 1 _ rfl
theorem ret_cells {w : World} {g0 g1 : Nat} {u0 u1 v0 v1 : Value} (h0 : w.heap[g0]? = some (.cells #[u0, u1] 41 (0, 0))) (h1 : w.heap[g1]? = some (.cells #[v0, v1] 41 (0, 0))) (o : Obj) :
    (w.alloc o).cell? ⟨g0, 0, none⟩ = some u0 ∧ (w.alloc o).cell? ⟨g0, 1, none⟩ = some u1 ∧ (w.alloc o).cell? ⟨g1, 0, none⟩ = some v0 ∧ (w.alloc o).cell? ⟨g1, 1, none⟩ = some v1 ∧ (w.alloc o).frozen? ⟨g1, 0, none⟩ = false ∧ (w.alloc o).frozen? ⟨g1, 1, none⟩ = false :=
  ⟨Mem.cell_of (Mem.alloc_old h0 o) 0, Mem.cell_of (Mem.alloc_old h0 o) 1, Mem.cell_of (Mem.alloc_old h1 o) 0, Mem.cell_of (Mem.alloc_old h1 o) 1, Mem.free_of (Mem.alloc_old h1 o) 0, Mem.free_of (Mem.alloc_old h1 o) 1⟩
theorem two_v {w w0 : World} {g : Nat} {P : Nat → Prop} {v : Value} {ys : List S45} (h : Kd.V k45 45 w w0.heap.size (fun k => P k ∧ k < w0.heap.size) v ys) (hg : ∀ k, k < w0.heap.size → k ≠ g) (v0 v1 : Value) : Kd.V k45 45 ((w.setCell ⟨g, 0, none⟩ v0).setCell ⟨g, 1, none⟩ v1) w0.heap.size (fun k => P k ∨ w0.heap.size ≤ k) v ys :=
  Kd.V_mono (Kd.V_far (p := ⟨g, 1, none⟩) (Kd.V_far (p := ⟨g, 0, none⟩) h (fun k hk => hg k hk.2) v0) (fun k hk => hg k hk.2) v1) (fun _ hk => .inl hk.1)
theorem two_b {w w0 : World} {g : Nat} (h : Below w0.heap.size w0 w) (hg : w0.heap.size ≤ g) (v0 v1 : Value) : Below w0.heap.size w0 ((w.setCell ⟨g, 0, none⟩ v0).setCell ⟨g, 1, none⟩ v1) := below_set (below_set h hg) hg
theorem rdouble_end {w2 w5 : World} {ok : Nat → Prop} {base g2 c2 : Nat} {ys : List S45} {a b : Int} {l : List Int} {sp : Bool} {o : Obj} (h : Kd.N k45 45 w2 base ok (.slice (some ⟨g2, 0, none⟩) (ys ++ [(⟨a, b, l, false⟩ : S45)]).length c2) (ys ++ [⟨a, b, l, false⟩])) (hb : Below (w2.alloc o).drew.heap.size (w2.alloc o).drew w5) :
    Kd.N k45 45 (w5.setCell ⟨g2, ys.length * 4 + 3, none⟩ (.bool sp)) base (fun k => ok k ∧ k < w2.heap.size) (.slice (some ⟨g2, 0, none⟩) (ys.length + 1) c2) (ys ++ [⟨a, b, l, sp⟩]) := by
  have hN := Kd.N_below (Kd.N_drew (Kd.N_alloc (Kd.N_bound h) o)) hb
  rw [List.length_append, List.length_singleton] at hN
  obtain ⟨ce, hcel, hFK, hce, hfe⟩ := Kd.N_elem hN z45 (ys.length : Int) (Int.natCast_nonneg _) (Int.ofNat_lt.2 (Nat.lt_succ_self _))
  rw [Int.toNat_natCast] at hFK hce
  rw [show (ys ++ [(⟨a, b, l, false⟩ : S45)]).getD ys.length z45 = ⟨a, b, l, false⟩ from by rw [List.getD_eq_getElem?_getD, List.getElem?_append_right (Nat.le_refl _), Nat.sub_self]; rfl] at hFK
  obtain ⟨Al, cl, rfl, hcl, hFl⟩ := k45_openF hFK
  obtain ⟨h1, _⟩ := Kd.N_seg hN (ys.length : Int) (Int.natCast_nonneg _) (Int.ofNat_lt.2 (Nat.lt_succ_self _)) (seg := [.bool sp]) (j := 3) hcel (by rw [Int.toNat_natCast]; exact hce) (by show 3 + 1 ≤ 4; decide) (x' := ⟨a, b, l, sp⟩) (k45_mkF _ _ ⟨a, b, l, sp⟩ hcl hFl) (fun _ hk => hk)
  rw [Int.toNat_natCast, List.set_append_right _ _ (Nat.le_refl _), Nat.sub_self, List.set_cons_zero] at h1
  exact h1
set_option maxHeartbeats 8000000 in
set_option maxRecDepth 100000 in
theorem rdouble_calls {n : Nat} {bs : List (List Frame)} {ys : List S45} (T : Tie n bs ys) (hs : Small bs) (hl : ys.length ≤ 1048576) (a b x : Int) (P : Nat → Prop) (A : Option Addr) (c : Nat) (w : World) (hV : Kd.V k45 45 w w.heap.size P (.slice A ys.length c) ys) :
    Calls Try.prog 34 #[.agg #[.int .i64 (n : Int), .slice A ys.length c], .int .i64 a, .int .i64 b, .int .i64 x] w fun e w' => ∃ v ys', e = .returned (.tuple #[.agg #[.int .i64 (n : Int), v], .int .i64 (doubleF n bs a b x).1]) ∧ Kd.V k45 45 w' w.heap.size (fun k => P k ∨ w.heap.size ≤ k) v ys' ∧ Tie n (doubleF n bs a b x).2 ys' ∧ Below w.heap.size w w' := by
  have HT := Aside0.mk T
  have HS := Aside0.mk hs
  have HL := Aside0.mk hl
  obtain ⟨W0, hW0⟩ : ∃ W0, (w.alloc (.cells #[.int .i64 (n : Int), .slice A ys.length c] 41)).alloc (.cells #[.int .i64 0, .slice none 0 0] 41) = W0 := ⟨_, rfl⟩
  have hB0 : Below w.heap.size w W0 := by rw [← hW0]; exact below_alloc (below_alloc (Below.refl _ _) _) _
  have hbx : W0.heap[w.heap.size]? = some (.cells #[.int .i64 (n : Int), .slice A ys.length c] 41 (0, 0)) := by rw [← hW0]; exact Mem.alloc_old (Mem.alloc_new _ _) _
  have hbr : W0.heap[w.heap.size + 1]? = some (.cells #[.int .i64 0, .slice none 0 0] 41 (0, 0)) := by rw [← hW0]; exact Mem.alloc_new_at _ _ _ (by rw [Mem.alloc_size])
  have hsz : W0.heap.size = w.heap.size + 2 := by rw [← hW0, Mem.alloc_size, Mem.alloc_size]
  have hv0 := Kd.V_below (Kd.V_mono (Kd.V_bound hV) (ok' := fun k => P k ∧ k < w.heap.size) (fun _ h => h)) hB0
  have HPK := Aside0.mk (topiaryref08_Peek.calls (2 * ys.length + 2) (n : Int) _ A c ys a b x (peekF n bs a b x).1 (peekF n bs a b x).2 W0 (V_base hv0) (peek_f T hl a b x _ (Nat.le_refl _)))
  rw [peek_frame] at HPK
  have p0 := Mem.cell_of hbx 0
  have p1 := Mem.cell_of hbx 1
  have f0 := Mem.free_of hbr 0
  have f1 := Mem.free_of hbr 1
  have r0 := Mem.cell_of hbr 0
  have r1 := Mem.cell_of hbr 1
  have HV0 := Aside0.mk hv0
  have HB0 := Aside0.mk hB0
  have HBX := Aside0.mk (And.intro hbx (And.intro hbr hsz))
  clear hV hv0 hB0 T hs hl hbx hbr hsz
  go_enter Try.func34, Try.ntmps34
  go_wp2_with (fail)
  refine HPK.out.mono ?_
  rintro e w1 ⟨vp, rfl, hvp, hb1⟩
  have HB1 := Aside0.mk (HB0.out.trans (hb1.mono HB0.out.size))
  have HV1 := Aside0.mk (Kd.V_below HV0.out hb1)
  have HVP := Aside0.mk hvp
  have bx1 := (hb1.block _ (by rw [HBX.out.2.2]; exact Nat.lt_succ_of_lt (Nat.lt_succ_self _))).trans HBX.out.1
  have br1 := (hb1.block _ (by rw [HBX.out.2.2]; exact Nat.lt_succ_self _)).trans HBX.out.2.1
  have hs1 : w.heap.size + 2 ≤ w1.heap.size := by have := hb1.size; rw [HBX.out.2.2] at this; exact this
  have HBX1 := Aside0.mk (And.intro bx1 (And.intro br1 hs1))
  have p0' := Mem.cell_of bx1 0
  have p1' := Mem.cell_of bx1 1
  have r0' := Mem.cell_of br1 0
  have r1' := Mem.cell_of br1 1
  have f0' := Mem.free_of br1 0
  have f1' := Mem.free_of br1 1
  clear p0 p1 f0 f1 r0 r1 hvp hb1 bx1 br1 hs1 HPK hW0
  by_cases c0 : frameF n bs a b x = 0
  case neg =>
    have e1 : (frameF n bs a b x != 0) = true := by rw [bne_iff_ne]; exact c0
    have hd : doubleF n bs a b x = (frameF n bs a b x, bs) := by unfold doubleF; rw [if_neg c0]
    have HD := Aside0.mk hd
    clear c0 hd
    go_wp2
    rw [HD.out]
    refine bodyPost_ret (results_ct rfl _ _ (w.heap.size + 1) 41 #[.int .i64 (n : Int), .slice A ys.length c] (0, 0) _ rfl (ret41 HBX1.out.2.1 _ _) Try.underlying41 rfl (by kernel_rfl)) rfl ?_
    exact ⟨_, ys, rfl, two_v HV1.out (fun k hk => by omega) _ _, HT.out, two_b HB1.out (Nat.le_succ _) _ _⟩
  have e1 : (frameF n bs a b x != 0) = false := bne_eq_false_iff_eq.2 c0
  have hpk : (peekF n bs a b x).1 = (frameAt n bs a b x).1 := by unfold peekF; rw [if_pos c0]; rfl
  have hfl : (peekF n bs a b x).1.length ≤ 65545 := by
    rw [hpk]
    obtain ⟨_, q, rfl, hq⟩ := frameF_ok c0
    unfold frameAt
    rw [Int.toNat_natCast]
    exact (HS.out (key n a b)).2 _ (mem_getD hq)
  have HC0 := Aside0.mk c0
  have hd : doubleF n bs a b x = putF n bs a b (frameAt n bs a b x) := by unfold doubleF; rw [if_pos c0]; rfl
  obtain ⟨Ap, cp, rfl⟩ := Kd.V_slice HVP.out
  have HD := Aside0.mk hd
  have HPF := Aside0.mk hpk
  clear hd hpk c0
  generalize (peekF n bs a b x).1 = l at *
  have hrd := (Kd.V_reads' HVP.out)
  have HRD := Aside0.mk hrd.2
  have HFL := Aside0.mk hfl
  obtain ⟨fa, hfa⟩ : ∃ fa, frameAt n bs a b x = fa := ⟨_, rfl⟩
  rw [hfa] at HPF HD
  have HFA := Aside0.mk hfa
  obtain ⟨lf, sp⟩ := fa
  have hlf : l = lf := HPF.out
  subst hlf
  clear hrd hfl hfa HPF
  by_cases c1 : (putF n bs a b (l, false)).1 = 0
  case neg =>
    obtain ⟨ys', h1, _, _⟩ := send_f HT.out HS.out HL.out a b l (2 * ys.length + 2) (Nat.le_refl _)
    have HSD := Aside0.mk (topiaryref08_Send.calls _ (n : Int) _ A c ys a b Ap cp l _ _ _ w1 (V_base HV1.out) HRD.out.2 HRD.out.1 h1)
    have e2 : ((putF n bs a b (l, false)).1 != 0) = true := by rw [bne_iff_ne]; exact c1
    have hd2 : doubleF n bs a b x = ((putF n bs a b (l, false)).1, bs) := by rw [HD.out]; exact Prod.ext (put_code1 n bs a b l sp false) (put_err (by rw [put_code1 n bs a b l sp false]; exact c1))
    have HD2 := Aside0.mk hd2
    clear c1 hd2 h1
    generalize (putF n bs a b (l, false)).1 = ec at *
    go_wp2_with (fail)
    refine HSD.out.mono ?_
    rintro e w2 ⟨v2, rfl, hv2, hb2⟩
    have bx2 := (hb2.block _ (Nat.lt_of_lt_of_le (Nat.lt_succ_of_lt (Nat.lt_succ_self _)) HBX1.out.2.2)).trans HBX1.out.1
    have br2 := (hb2.block _ (Nat.lt_of_lt_of_le (Nat.lt_succ_self _) HBX1.out.2.2)).trans HBX1.out.2.1
    have HB2 := Aside0.mk (HB1.out.trans (hb2.mono (Nat.le_trans (Nat.le_add_right _ 2) HBX1.out.2.2)))
    have HV2 := Aside0.mk (Kd.V_below HV1.out hb2)
    have hs2 := Nat.le_trans HBX1.out.2.2 hb2.size
    have HBX2 := Aside0.mk (And.intro bx2 (And.intro br2 hs2))
    obtain ⟨A2, c2, rfl⟩ := Kd.V_slice hv2
    have HP := Aside0.mk (ret_cells HBX2.out.1 HBX2.out.2.1 (.cells #[.int .i64 (n : Int), .slice A2 ys'.length c2] 41))
    obtain ⟨z0, z1, z2, z3, z4, z5⟩ := HP.out
    clear HSD hv2 hb2 bx2 br2 hs2 p0' p1' r0' r1' f0' f1'
    go_wp2
    rw [HD2.out]
    refine bodyPost_ret (results_ct rfl _ _ (w.heap.size + 1) 41 #[.int .i64 (n : Int), .slice A ys.length c] (0, 0) _ rfl (ret41 (Mem.alloc_old HBX2.out.2.1 _) _ _) Try.underlying41 rfl (by kernel_rfl)) rfl ?_
    exact ⟨_, ys, rfl, two_v (Kd.V_alloc HV2.out _) (fun k hk => by omega) _ _, HT.out, two_b (below_alloc HB2.out _) (Nat.le_succ _) _ _⟩
  have e2 : ((putF n bs a b (l, false)).1 != 0) = false := bne_eq_false_iff_eq.2 c1
  have HSD := Aside0.mk (send_mine HT.out HS.out HL.out _ A c Ap cp w1 (V_base HV1.out) HRD.out.2 HRD.out.1 c1)
  obtain ⟨hlk, hpu⟩ := put_ok (l := l) (sp := sp) (by rw [put_code1 n bs a b l sp false]; exact c1)
  have HD2 := Aside0.mk (HD.out.trans hpu)
  have HLK := Aside0.mk hlk
  obtain ⟨q, hq1, hq2, hq3, hq4⟩ := tie_place HT.out HC0.out
  have HQ := Aside0.mk (And.intro hq2 (And.intro hq3 (hq4.trans HFA.out)))
  have HPC : ∀ W, Kd.V k45 45 W 0 (fun _ => True) (.slice A ys.length c) ys → Calls Try.prog 37 #[.agg #[.int .i64 (n : Int), .slice A ys.length c], .int .i64 a, .int .i64 b, .int .i64 x] W fun e w' => e = .returned (.int .i64 (q : Int)) ∧ Below W.heap.size W w' := fun W hW => by
    have h_ := topiaryref08_Place.calls (2 * ys.length + 1) (n : Int) A c ys a b x (q : Int) W (Kd.V_reads' hW).2.2 (Kd.V_reads' hW).2.1 (by rw [place_f (by have := HL.out; omega) _ _ _ _ _ (Nat.le_refl _), hq1])
    exact h_
  have HPCA := Aside0.mk HPC
  clear c1 hlk hpu HPC hq1 hq2 hq3 hq4
  generalize (putF n bs a b (l, false)).1 = ec at *
  go_wp2_with (fail)
  refine HSD.out.mono ?_
  rintro e w2 ⟨v2, rfl, hv2, hb2⟩
  have bx2 := (hb2.block _ (Nat.lt_of_lt_of_le (Nat.lt_succ_of_lt (Nat.lt_succ_self _)) HBX1.out.2.2)).trans HBX1.out.1
  have br2 := (hb2.block _ (Nat.lt_of_lt_of_le (Nat.lt_succ_self _) HBX1.out.2.2)).trans HBX1.out.2.1
  have HB2 := Aside0.mk (HB1.out.trans (hb2.mono (Nat.le_trans (Nat.le_add_right _ 2) HBX1.out.2.2)))
  have HV2 := Aside0.mk (Kd.V_below HV1.out hb2)
  have hs2 := Nat.le_trans HBX1.out.2.2 hb2.size
  have HBX2 := Aside0.mk (And.intro bx2 (And.intro br2 hs2))
  obtain ⟨g2, c2, rfl, hg2, hg2l, _⟩ := Kd.N_form hv2 (by rw [List.length_append]; exact Nat.succ_pos _)
  have HN2 := Aside0.mk hv2
  clear HSD hv2 hb2 bx2 br2 hs2 p0' p1' r0' r1' f0' f1'
  have hVW := Kd.V_alloc HV2.out (.cells #[.int .i64 (n : Int), .slice (some ⟨g2, 0, none⟩) (ys.length + 1) c2] 41)
  have hNW := Kd.N_alloc HN2.out (.cells #[.int .i64 (n : Int), .slice (some ⟨g2, 0, none⟩) (ys.length + 1) c2] 41)
  obtain ⟨ad, A9, c9, rfl, _, _, _, x3, _, _⟩ := at_T45 (Kd.V_reads' hVW).2.2 (q : Int) (Int.natCast_nonneg _) (Int.ofNat_lt.2 HQ.out.2.1)
  rw [Int.toNat_natCast, show (rd_T45 ys (q : Int)).f3 = sp from by unfold rd_T45; rw [Int.toNat_natCast]; exact congrArg Prod.snd HQ.out.2.2] at x3
  obtain ⟨ce, hcel, hFK, hce, hfe⟩ := Kd.N_elem hNW z45 (ys.length : Int) (Int.natCast_nonneg _) (by rw [List.length_append]; exact Int.ofNat_lt.2 (Nat.lt_succ_self _))
  rw [Int.toNat_natCast] at hFK hce hfe
  have hgl : (ys ++ [(⟨a, b, l, false⟩ : S45)]).getD ys.length z45 = ⟨a, b, l, false⟩ := by rw [List.getD_eq_getElem?_getD, List.getElem?_append_right (Nat.le_refl _), Nat.sub_self]; rfl
  rw [hgl] at hFK
  obtain ⟨Al, cl, rfl, hcl, hFl⟩ := k45_openF hFK
  have t3 := hce 3 (.bool false) rfl
  have t3f := hfe 3
  rw [show ys.length * k45.sz + 3 = ys.length * 4 + 3 from rfl] at t3 t3f
  have b1 : (0 ≤ (q : Int)) = True := eq_true (Int.natCast_nonneg _)
  have b2 : ((q : Int) < (ys.length : Int)) = True := eq_true (Int.ofNat_lt.2 HQ.out.2.1)
  have b3 : (q < ys.length) = True := eq_true HQ.out.2.1
  have b4 : ((ys.length : Int) < (ys.length : Int) + 1) = True := eq_true (Int.lt_succ _)
  have hw1 : wrap64 (ys.length : Int) = (ys.length : Int) := by have := HL.out; unfold wrap64; clear b1 b2 b3; omega
  have HFF := Aside0.mk (And.intro hcl hFl)
  have HCE := Aside0.mk hce
  have HVW := Aside0.mk hVW
  have HNW := Aside0.mk hNW
  have y0 := Mem.cell_of (Mem.alloc_old HBX2.out.1 (.cells #[.int .i64 (n : Int), .slice (some ⟨g2, 0, none⟩) (ys.length + 1) c2] 41)) 0
  have y1 := Mem.cell_of (Mem.alloc_old HBX2.out.1 (.cells #[.int .i64 (n : Int), .slice (some ⟨g2, 0, none⟩) (ys.length + 1) c2] 41)) 1
  have u0 := Mem.cell_of (Mem.alloc_new w2 (.cells #[.int .i64 (n : Int), .slice (some ⟨g2, 0, none⟩) (ys.length + 1) c2] 41)) 0
  have u1 := Mem.cell_of (Mem.alloc_new w2 (.cells #[.int .i64 (n : Int), .slice (some ⟨g2, 0, none⟩) (ys.length + 1) c2] 41)) 1
  rw [show (#[Value.int .i64 (n : Int), .slice (some ad) ys.length c] : Array Value)[0]? = some (.int .i64 (n : Int)) from rfl] at y0
  rw [show (#[Value.int .i64 (n : Int), .slice (some ad) ys.length c] : Array Value)[1]? = some (.slice (some ad) ys.length c) from rfl] at y1
  rw [show (#[Value.int .i64 (n : Int), .slice (some ⟨g2, 0, none⟩) (ys.length + 1) c2] : Array Value)[0]? = some (.int .i64 (n : Int)) from rfl] at u0
  rw [show (#[Value.int .i64 (n : Int), .slice (some ⟨g2, 0, none⟩) (ys.length + 1) c2] : Array Value)[1]? = some (.slice (some ⟨g2, 0, none⟩) (ys.length + 1) c2) from rfl] at u1
  have HSS := Aside0.mk (And.intro y0 (And.intro y1 (And.intro u0 (And.intro u1 (And.intro x3 t3)))))
  have HTF := Aside0.mk t3f
  clear y0 y1 u0 u1 x3 t3 t3f hVW hNW hcel hFK hce hfe hgl hcl hFl
  go_wp2_with (fail)
  refine start_ (n := 19) (S := (fun w' => w'.cell? ⟨w.heap.size, 0, none⟩ = some (.int .i64 (n : Int)) ∧ w'.cell? ⟨w.heap.size, 1, none⟩ = some (.slice (some ad) ys.length c) ∧ w'.cell? ⟨w2.heap.size, 0, none⟩ = some (.int .i64 (n : Int)) ∧ w'.cell? ⟨w2.heap.size, 1, none⟩ = some (.slice (some ⟨g2, 0, none⟩) (ys.length + 1) c2) ∧ w'.cell? ⟨(ad.add (q * 4)).block, (ad.add (q * 4)).off + 3, none⟩ = some (.bool sp) ∧ w'.cell? ⟨g2, ys.length * 4 + 3, none⟩ = some (.bool false))) (ds := [18]) #[false, false, false, false, false, false, false, false, false, false, false, false, false, false, false, false, false, false, false] (by kernel_rfl) rfl rfl (HSS.out) (fun hHeld => ?_)
  refine with_tabW rdb.tab7 rdb.bits7 (fun HT_ HW_ => ?_)
  refine pure_ (i := 0) (N := (some 38)) (v := ?_) (a' := ?_) #[true, false, false, false, false, false, false, false, false, false, false, false, false, false, false, false, false, false, false] rfl rfl (any_of HT_.out (by kernel_rfl)) (fun _ _ _ h => h) (Or.inl ⟨by rfl, ?_⟩) ?_ ?_
  rotate_left
  · intro w'
    go_simp
    with_reducible rfl
  rotate_left
  · simp only [Act.put, List.setIfInBounds_toArray, List.set_cons_zero, List.set_cons_succ, i64_w, i32_w]
    rfl
  refine pure_ (i := 2) (N := (some 40)) (v := ?_) (a' := ?_) #[true, false, true, false, false, false, false, false, false, false, false, false, false, false, false, false, false, false, false] rfl rfl (any_of HT_.out (by kernel_rfl)) (fun _ _ _ h => h) (Or.inl ⟨by rfl, ?_⟩) ?_ ?_
  rotate_left
  · intro w'
    go_simp
    with_reducible rfl
  rotate_left
  · simp only [Act.put, List.setIfInBounds_toArray, List.set_cons_zero, List.set_cons_succ, i64_w, i32_w]
    rfl
  refine pure_ (i := 6) (N := (some 44)) (v := ?_) (a' := ?_) #[true, false, true, false, false, false, true, false, false, false, false, false, false, false, false, false, false, false, false] rfl rfl (any_of HT_.out (by kernel_rfl)) (fun _ _ _ h => h) (Or.inl ⟨by rfl, ?_⟩) ?_ ?_
  rotate_left
  · intro w'
    go_simp
    with_reducible rfl
  rotate_left
  · simp only [Act.put, List.setIfInBounds_toArray, List.set_cons_zero, List.set_cons_succ, i64_w, i32_w]
    rfl
  refine pure_ (i := 9) (N := (some 47)) (v := ?_) (a' := ?_) #[true, false, true, false, false, false, true, false, false, true, false, false, false, false, false, false, false, false, false] rfl rfl (any_of HT_.out (by kernel_rfl)) (fun _ _ _ h => h) (Or.inl ⟨by rfl, ?_⟩) ?_ ?_
  rotate_left
  · intro w'
    go_simp
    with_reducible rfl
  rotate_left
  · simp only [Act.put, List.setIfInBounds_toArray, List.set_cons_zero, List.set_cons_succ, i64_w, i32_w]
    rfl
  refine pure_ (i := 10) (N := (some 48)) (v := ?_) (a' := ?_) #[true, false, true, false, false, false, true, false, false, true, true, false, false, false, false, false, false, false, false] rfl rfl (any_of HT_.out (by kernel_rfl)) (fun _ _ _ h => h) (Or.inl ⟨by rfl, ?_⟩) ?_ ?_
  rotate_left
  · intro w'
    go_simp
    with_reducible rfl
  rotate_left
  · simp only [Act.put, List.setIfInBounds_toArray, List.set_cons_zero, List.set_cons_succ, i64_w, i32_w]
    rfl
  refine pure_ (i := 11) (N := (some 49)) (v := ?_) (a' := ?_) #[true, false, true, false, false, false, true, false, false, true, true, true, false, false, false, false, false, false, false] rfl rfl (any_of HT_.out (by kernel_rfl)) (fun _ _ _ h => h) (Or.inl ⟨by rfl, ?_⟩) ?_ ?_
  rotate_left
  · intro w'
    go_simp
    with_reducible rfl
  rotate_left
  · simp only [Act.put, List.setIfInBounds_toArray, List.set_cons_zero, List.set_cons_succ, i64_w, i32_w]
    rfl
  refine take_ (i := 1) (N := (some 39)) (v := ?_) (a' := ?_) #[true, true, true, false, false, false, true, false, false, true, true, true, false, false, false, false, false, false, false] rfl rfl (take_ofW HT_.out HW_.out (by kernel_rfl)) (fun _ _ _ h => h) (Or.inl ⟨by rfl, ?_⟩) hHeld ?_ ?_
  rotate_left
  · rintro w' ⟨s0, s1, s2, s3, s4, s5⟩
    go_simp
    with_reducible rfl
  rotate_left
  · simp only [Act.put, List.setIfInBounds_toArray, List.set_cons_zero, List.set_cons_succ, i64_w, i32_w]
    rfl
  refine take_ (i := 3) (N := (some 41)) (v := ?_) (a' := ?_) #[true, true, true, true, false, false, true, false, false, true, true, true, false, false, false, false, false, false, false] rfl rfl (take_ofW HT_.out HW_.out (by kernel_rfl)) (fun _ _ _ h => h) (Or.inl ⟨by rfl, ?_⟩) hHeld ?_ ?_
  rotate_left
  · rintro w' ⟨s0, s1, s2, s3, s4, s5⟩
    go_simp
    with_reducible rfl
  rotate_left
  · simp only [Act.put, List.setIfInBounds_toArray, List.set_cons_zero, List.set_cons_succ, i64_w, i32_w]
    rfl
  refine pure_ (i := 4) (N := (some 42)) (v := ?_) (a' := ?_) #[true, true, true, true, true, false, true, false, false, true, true, true, false, false, false, false, false, false, false] rfl rfl (any_of HT_.out (by kernel_rfl)) (fun _ _ _ h => h) (Or.inl ⟨by rfl, ?_⟩) ?_ ?_
  rotate_left
  · intro w'
    go_simp
    with_reducible rfl
  rotate_left
  · simp only [Act.put, List.setIfInBounds_toArray, List.set_cons_zero, List.set_cons_succ, i64_w, i32_w]
    rfl
  refine pure_ (i := 5) (N := (some 43)) (v := ?_) (a' := ?_) #[true, true, true, true, true, true, true, false, false, true, true, true, false, false, false, false, false, false, false] rfl rfl (any_of HT_.out (by kernel_rfl)) (fun _ _ _ h => h) (Or.inl ⟨by rfl, ?_⟩) ?_ ?_
  rotate_left
  · intro w'
    go_simp
    with_reducible rfl
  rotate_left
  · simp only [Act.put, List.setIfInBounds_toArray, List.set_cons_zero, List.set_cons_succ, i64_w, i32_w]
    rfl
  refine take_ (i := 7) (N := (some 45)) (v := ?_) (a' := ?_) #[true, true, true, true, true, true, true, true, false, true, true, true, false, false, false, false, false, false, false] rfl rfl (take_ofW HT_.out HW_.out (by kernel_rfl)) (fun _ _ _ h => h) (Or.inl ⟨by rfl, ?_⟩) hHeld ?_ ?_
  rotate_left
  · rintro w' ⟨s0, s1, s2, s3, s4, s5⟩
    go_simp
    with_reducible rfl
  rotate_left
  · simp only [Act.put, List.setIfInBounds_toArray, List.set_cons_zero, List.set_cons_succ, i64_w, i32_w]
    rfl
  refine take_ (i := 8) (N := (some 46)) (v := ?_) (a' := ?_) #[true, true, true, true, true, true, true, true, true, true, true, true, false, false, false, false, false, false, false] rfl rfl (take_ofW HT_.out HW_.out (by kernel_rfl)) (fun _ _ _ h => h) (Or.inl ⟨by rfl, ?_⟩) hHeld ?_ ?_
  rotate_left
  · rintro w' ⟨s0, s1, s2, s3, s4, s5⟩
    go_simp
    with_reducible rfl
  rotate_left
  · simp only [Act.put, List.setIfInBounds_toArray, List.set_cons_zero, List.set_cons_succ, i64_w, i32_w]
    rfl
  refine one_ (i := 12) (N := (some 50)) #[true, true, true, true, true, true, true, true, true, true, true, true, true, false, false, false, false, false, false] rfl rfl (one_of HT_.out (by kernel_rfl)) (by decide) (fun K hK => ?_)
  refine goes_ Try.func37 (by kernel_rfl) rfl #[.agg #[.int .i64 (n : Int), .slice (some ad) ys.length c], .int .i64 a, .int .i64 b, .int .i64 x] (by rfl) rfl rfl (by (try simp only [List.map_toArray, List.map_cons, List.map_nil]); first | done | rfl) ?_
  refine (HPCA.out _ (V_base (Kd.V_mono (Kd.V_drew HVW.out) (fun _ _ => trivial)))).mono ?_
  rintro e w5 ⟨rfl, hb5⟩
  refine ⟨_, rfl, ?_⟩
  have HS5 : Aside0 ((fun w' => w'.cell? ⟨w.heap.size, 0, none⟩ = some (.int .i64 (n : Int)) ∧ w'.cell? ⟨w.heap.size, 1, none⟩ = some (.slice (some ad) ys.length c) ∧ w'.cell? ⟨w2.heap.size, 0, none⟩ = some (.int .i64 (n : Int)) ∧ w'.cell? ⟨w2.heap.size, 1, none⟩ = some (.slice (some ⟨g2, 0, none⟩) (ys.length + 1) c2) ∧ w'.cell? ⟨(ad.add (q * 4)).block, (ad.add (q * 4)).off + 3, none⟩ = some (.bool sp) ∧ w'.cell? ⟨g2, ys.length * 4 + 3, none⟩ = some (.bool false)) w5) := ⟨⟨(hb5.cell (World.block_lt_of_cell? _ _ HSS.out.1)).trans HSS.out.1, (hb5.cell (World.block_lt_of_cell? _ _ HSS.out.2.1)).trans HSS.out.2.1, (hb5.cell (World.block_lt_of_cell? _ _ HSS.out.2.2.1)).trans HSS.out.2.2.1, (hb5.cell (World.block_lt_of_cell? _ _ HSS.out.2.2.2.1)).trans HSS.out.2.2.2.1, (hb5.cell (World.block_lt_of_cell? _ _ HSS.out.2.2.2.2.1)).trans HSS.out.2.2.2.2.1, (hb5.cell (World.block_lt_of_cell? _ _ HSS.out.2.2.2.2.2)).trans HSS.out.2.2.2.2.2⟩⟩
  have HB5 := Aside0.mk hb5
  clear hb5
  have cz := HS5.out.2.2.2.2.2
  have fz : w5.frozen? ⟨g2, ys.length * 4 + 3, none⟩ = false := by obtain ⟨cells, hc⟩ := Kd.N_typed HNW.out g2 rfl; exact Mem.free_of ((HB5.out.block g2 (blk_lt hc)).trans hc) _
  refine hK.out _ _ (HS5.out) (fun hHeld => ?_)
  clear hK K
  refine norm_ (a' := ?_) ?_ ?_
  rotate_left
  · show Act.put _ (some 50) _ = _
    simp only [Act.put, List.setIfInBounds_toArray, List.set_cons_zero, List.set_cons_succ, i64_w, i32_w]
    rfl
  refine pure_ (i := 13) (N := (some 51)) (v := ?_) (a' := ?_) #[true, true, true, true, true, true, true, true, true, true, true, true, true, true, false, false, false, false, false] rfl rfl (any_of HT_.out (by kernel_rfl)) (fun _ _ _ h => h) (Or.inl ⟨by rfl, ?_⟩) ?_ ?_
  rotate_left
  · intro w'
    go_simp
    with_reducible rfl
  rotate_left
  · simp only [Act.put, List.setIfInBounds_toArray, List.set_cons_zero, List.set_cons_succ, i64_w, i32_w]
    rfl
  refine pure_ (i := 14) (N := (some 52)) (v := ?_) (a' := ?_) #[true, true, true, true, true, true, true, true, true, true, true, true, true, true, true, false, false, false, false] rfl rfl (any_of HT_.out (by kernel_rfl)) (fun _ _ _ h => h) (Or.inl ⟨by rfl, ?_⟩) ?_ ?_
  rotate_left
  · intro w'
    go_simp
    with_reducible rfl
  rotate_left
  · simp only [Act.put, List.setIfInBounds_toArray, List.set_cons_zero, List.set_cons_succ, i64_w, i32_w]
    rfl
  refine take_ (i := 15) (N := (some 53)) (v := ?_) (a' := ?_) #[true, true, true, true, true, true, true, true, true, true, true, true, true, true, true, true, false, false, false] rfl rfl (take_ofW HT_.out HW_.out (by kernel_rfl)) (fun _ _ _ h => h) (Or.inl ⟨by rfl, ?_⟩) hHeld ?_ ?_
  rotate_left
  · rintro w' ⟨s0, s1, s2, s3, s4, s5⟩
    go_simp
    with_reducible rfl
  rotate_left
  · simp only [Act.put, List.setIfInBounds_toArray, List.set_cons_zero, List.set_cons_succ, i64_w, i32_w]
    rfl
  refine pure_ (i := 16) (N := (some 54)) (v := ?_) (a' := ?_) #[true, true, true, true, true, true, true, true, true, true, true, true, true, true, true, true, true, false, false] rfl rfl (any_of HT_.out (by kernel_rfl)) (fun _ _ _ h => h) (Or.inl ⟨by rfl, ?_⟩) ?_ ?_
  rotate_left
  · intro w'
    go_simp
    with_reducible rfl
  rotate_left
  · simp only [Act.put, List.setIfInBounds_toArray, List.set_cons_zero, List.set_cons_succ, i64_w, i32_w]
    rfl
  refine pure_ (i := 17) (N := (some 55)) (v := ?_) (a' := ?_) #[true, true, true, true, true, true, true, true, true, true, true, true, true, true, true, true, true, true, false] rfl rfl (any_of HT_.out (by kernel_rfl)) (fun _ _ _ h => h) (Or.inl ⟨by rfl, ?_⟩) ?_ ?_
  rotate_left
  · intro w'
    go_simp
    with_reducible rfl
  rotate_left
  · simp only [Act.put, List.setIfInBounds_toArray, List.set_cons_zero, List.set_cons_succ, i64_w, i32_w]
    rfl
  refine last_ (i := 18) (N := none) #[true, true, true, true, true, true, true, true, true, true, true, true, true, true, true, true, true, true, true] rfl rfl (one_of HT_.out (by kernel_rfl)) (by decide) (fun K hK => ?_)
  refine skip_ (w1 := w5.setCell ⟨g2, ys.length * 4 + 3, none⟩ (.bool sp)) (by rfl) rfl ?_ ?_
  · go_simp
  refine hK.out _ _ ?_
  clear hK K
  refine done_ (done_of HT_.out (by kernel_rfl)) ?_
  have hgA : w2.heap.size ≠ g2 := Nat.ne_of_gt hg2l
  have hgB : w.heap.size + 1 ≠ g2 := fun e => by have := HBX1.out.2.2; omega
  have hgC : w.heap.size ≤ g2 := Nat.le_trans (Nat.le_trans (Nat.le_add_right _ 2) HBX1.out.2.2) hg2
  have hm := rdouble_end HN2.out HB5.out (sp := sp)
  have HM := Aside0.mk hm
  have hb6 : Below w.heap.size w (w5.setCell ⟨g2, ys.length * 4 + 3, none⟩ (.bool sp)) := below_set ((below_drew1 (below_alloc HB2.out _)).trans (HB5.out.mono (Nat.le_trans HB2.out.size (by show w2.heap.size ≤ (w2.alloc _).heap.size; rw [Mem.alloc_size]; exact Nat.le_succ _)))) hgC
  have HB6 := Aside0.mk hb6
  have bx6 := (Mem.set_other w5 ⟨g2, ys.length * 4 + 3, none⟩ (.bool sp) _ hgA).trans ((HB5.out.block w2.heap.size (by show w2.heap.size < (w2.alloc _).heap.size; rw [Mem.alloc_size]; exact Nat.lt_succ_self _)).trans (Mem.alloc_new w2 (.cells #[.int .i64 (n : Int), .slice (some ⟨g2, 0, none⟩) (ys.length + 1) c2] 41)))
  have br6 := (Mem.set_other w5 ⟨g2, ys.length * 4 + 3, none⟩ (.bool sp) _ hgB).trans ((HB5.out.block (w.heap.size + 1) (by show w.heap.size + 1 < (w2.alloc _).heap.size; rw [Mem.alloc_size]; have := HBX2.out.2.2; omega)).trans (Mem.alloc_old HBX2.out.2.1 (.cells #[.int .i64 (n : Int), .slice (some ⟨g2, 0, none⟩) (ys.length + 1) c2] 41)))
  have HBR := Aside0.mk br6
  generalize w5.setCell ⟨g2, ys.length * 4 + 3, none⟩ (.bool sp) = W6 at *
  have z0 := Mem.cell_of bx6 0
  have z1 := Mem.cell_of bx6 1
  have z2 := Mem.cell_of br6 0
  have z3 := Mem.cell_of br6 1
  have z4 := Mem.free_of br6 0
  have z5 := Mem.free_of br6 1
  clear hm hb6 bx6 br6 hgA hgB hgC cz fz HSS
  go_wp2
  rw [HD2.out]
  refine bodyPost_ret (results_ct rfl _ _ (w.heap.size + 1) 41 #[.int .i64 (n : Int), .slice (some ⟨g2, 0, none⟩) (ys.length + 1) c2] (0, 0) _ rfl (ret41 HBR.out _ _) Try.underlying41 rfl (by kernel_rfl)) rfl ?_
  refine ⟨_, rfl, ys ++ [⟨a, b, l, sp⟩], ?_, tie_put HT.out HLK.out l sp, two_b HB6.out (Nat.le_succ _) _ _⟩
  have hne : ∀ k, ((P k ∧ k < w.heap.size) ∨ w1.heap.size ≤ k) ∧ k < w2.heap.size → k ≠ w.heap.size + 1 := fun k hk => by have := HBX1.out.2.2; rcases hk.1 with h_ | h_ <;> omega
  refine Kd.V_mono (Kd.N_V (base' := w.heap.size) (Kd.N_far (p := ⟨w.heap.size + 1, 1, none⟩) (Kd.N_far (p := ⟨w.heap.size + 1, 0, none⟩) HM.out hne _) hne _)) (fun k hk => ?_)
  exact hk.1.elim (fun h_ => .inl h_.1) (fun h_ => .inr (by have := HBX1.out.2.2; omega))
end Go.Proofs.Ytchepjbdaojidaa.PBags
