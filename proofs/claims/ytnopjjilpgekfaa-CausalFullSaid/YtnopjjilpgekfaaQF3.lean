/- What the statement's row needs of this session's texts, joined by program: part 4. -/
import Derived.WalkMore
import Derived.Deep.LoopGhost
import Derived.Test.YtnopjjilpgekfaaQF2
namespace Go.Proofs.Ytnopjjilpgekfaa.PCa
open Go.RowKit Go.Proofs.YtnopjjilpgekfaaW.PrintWords Go.Proofs.YtnopjjilpgekfaaW.PrintLast Go.Proofs.YtnopjjilpgekfaaW.PrintMore
attribute [local go_sem] max2_int min2_int max_two min_two max_three min_three max_four min_four   -- for this text's walks alone
set_option linter.unusedVariables false
set_option linter.unusedSimpArgs false
def change_Check.j0 : Nat → Bool → Int → Int → Int → List Int → Int → Int → Int → Int → Int → Int → Int → ByteArray → ByteArray → Option (Int)
 | 0, _, _, _, _, _, _, _, _, _, _, _, _, _, _ => none
 | k + 1, x4, x133000, x133001, x133002, x133003, x133004, x133005, x133006, x133007, x133008, x133009, x133010, x133011, x133012 => if x4 = true then (some 1) else ((ident_Right.f x133000 x133001).bind fun t133 => (if t133 = true then (if x133002 < 1 then (some 1) else (if x133002 > x133000 then (some 1) else ((change_deps.f k x133000 x133001 x133002 x133003 x133004 x133005 x133006 x133007 x133008 x133009 x133010 x133011 x133012).bind fun t134 => (if t134 = 0 then ((change_node.f x133000 x133001 x133002 x133003 x133004 x133005 x133006 x133007 x133008 x133009 x133010 x133011 x133012).bind fun t135 => (if t135 = true then ((change_place.f k x133000 x133001 x133002 x133003 x133004 x133005 x133006 x133007 x133008 x133009 x133010 x133011 x133012).bind fun t136 => (if t136 = true then ((change_words.f k x133000 x133001 x133002 x133003 x133004 x133005 x133006 x133007 x133008 x133009 x133010 x133011 x133012).bind fun t137 => (some t137)) else (some 2))) else (some 2))) else (some t134))))) else (some 2)))
def change_Check.f (k : Nat) (a0_0 : Int) (a0_1 : Int) (a0_2 : Int) (l0_3 : List Int) (a0_4 : Int) (a0_5 : Int) (a0_6 : Int) (a0_7 : Int) (a0_8 : Int) (a0_9 : Int) (a0_10 : Int) (a0_11 : ByteArray) (a0_12 : ByteArray) : Option (Int) := if a0_4 < 1 then (change_Check.j0 k true a0_0 a0_1 a0_2 l0_3 a0_4 a0_5 a0_6 a0_7 a0_8 a0_9 a0_10 a0_11 a0_12) else (change_Check.j0 k (decide (a0_4 > 5)) a0_0 a0_1 a0_2 l0_3 a0_4 a0_5 a0_6 a0_7 a0_8 a0_9 a0_10 a0_11 a0_12)
theorem change_Check.mono_l : ∀ k, (∀ y0 y1 y2 y3 y4 y5 y6 y7 y8 y9 y10 y11 y12 y13, LeO (change_Check.j0 k y0 y1 y2 y3 y4 y5 y6 y7 y8 y9 y10 y11 y12 y13) (change_Check.j0 (k + 1) y0 y1 y2 y3 y4 y5 y6 y7 y8 y9 y10 y11 y12 y13))
 | 0 => fun _ _ _ _ _ _ _ _ _ _ _ _ _ _ r h => by simp [change_Check.j0] at h
 | k + 1 => by
  have ih0 := change_Check.mono_l k
  ·intro y0 y1 y2 y3 y4 y5 y6 y7 y8 y9 y10 y11 y12 y13
   unfold change_Check.j0
   repeat' first
   | (with_reducible exact ih0 _ _ _ _ _ _ _ _ _ _ _ _ _ _)
   | (with_reducible exact change_deps.mono _ _ _ _ _ _ _ _ _ _ _ _ _ _)
   | (with_reducible exact change_place.mono _ _ _ _ _ _ _ _ _ _ _ _ _ _)
   | (with_reducible exact change_words.mono _ _ _ _ _ _ _ _ _ _ _ _ _ _)
   | (with_reducible exact LeO.refl _)
   | (with_reducible exact LeO.none _)
   | (with_reducible refine LeO.ite ?_ ?_)
   | (with_reducible refine LeO.bind ?_ (fun _ => ?_))
   | exact ih0 _ _ _ _ _ _ _ _ _ _ _ _ _ _
   | exact change_deps.mono _ _ _ _ _ _ _ _ _ _ _ _ _ _
   | exact change_place.mono _ _ _ _ _ _ _ _ _ _ _ _ _ _
   | exact change_words.mono _ _ _ _ _ _ _ _ _ _ _ _ _ _
   | exact LeO.none _
   | refine LeO.ite ?_ ?_
   | refine LeO.bind ?_ (fun _ => ?_)
theorem change_Check.mono : ∀ a0 a1 a2 a3 a4 a5 a6 a7 a8 a9 a10 a11 a12 k, LeO (change_Check.f k a0 a1 a2 a3 a4 a5 a6 a7 a8 a9 a10 a11 a12) (change_Check.f (k + 1) a0 a1 a2 a3 a4 a5 a6 a7 a8 a9 a10 a11 a12) := by
 intro a0 a1 a2 a3 a4 a5 a6 a7 a8 a9 a10 a11 a12 k
 have ih0 := change_Check.mono_l k
 unfold change_Check.f
 repeat' first
   | (with_reducible exact ih0 _ _ _ _ _ _ _ _ _ _ _ _ _ _)
   | (with_reducible exact change_deps.mono _ _ _ _ _ _ _ _ _ _ _ _ _ _)
   | (with_reducible exact change_place.mono _ _ _ _ _ _ _ _ _ _ _ _ _ _)
   | (with_reducible exact change_words.mono _ _ _ _ _ _ _ _ _ _ _ _ _ _)
   | (with_reducible exact LeO.refl _)
   | (with_reducible exact LeO.none _)
   | (with_reducible refine LeO.ite ?_ ?_)
   | (with_reducible refine LeO.bind ?_ (fun _ => ?_))
   | exact ih0 _ _ _ _ _ _ _ _ _ _ _ _ _ _
   | exact change_deps.mono _ _ _ _ _ _ _ _ _ _ _ _ _ _
   | exact change_place.mono _ _ _ _ _ _ _ _ _ _ _ _ _ _
   | exact change_words.mono _ _ _ _ _ _ _ _ _ _ _ _ _ _
   | exact LeO.none _
   | refine LeO.ite ?_ ?_
   | refine LeO.bind ?_ (fun _ => ?_)
set_option maxHeartbeats 8000000 in
set_option maxRecDepth 100000 in
theorem change_Check.calls (k : Nat) (a0_0 : Int) (a0_1 : Int) (a0_2 : Int) (A0_3 : Option Addr) (c0_3 : Nat) (l0_3 : List Int) (a0_4 : Int) (a0_5 : Int) (a0_6 : Int) (a0_7 : Int) (a0_8 : Int) (a0_9 : Int) (a0_10 : Int) (a0_11 : ByteArray) (a0_12 : ByteArray) (r : Int) (w : World) (hr0_3 : Kd.C (Kd.int .i64) w A0_3 l0_3.length l0_3) (hc0_3 : l0_3.length ≤ c0_3) (h : change_Check.f k a0_0 a0_1 a0_2 l0_3 a0_4 a0_5 a0_6 a0_7 a0_8 a0_9 a0_10 a0_11 a0_12 = some r) :
  Calls Try.prog 34 #[.agg #[.int .i64 a0_0, .int .i64 a0_1, .int .i64 a0_2, .slice A0_3 l0_3.length c0_3, .int .i64 a0_4, .int .i64 a0_5, .int .i64 a0_6, .int .i64 a0_7, .int .i64 a0_8, .int .i64 a0_9, .int .i64 a0_10, .string a0_11, .string a0_12]] w fun e w' => e = .returned (.int .i64 r) ∧ Below w.heap.size w w' := by
 have hu32 := Try.underlying32
 have hu30 := Try.underlying30
 have HR0_3 := Aside0.mk hr0_3
 have HC0_3 := Aside0.mk hc0_3
 clear hr0_3 hc0_3
 have HB := Aside0.mk (Below.refl w.heap.size w)
 have H : (if a0_4 < 1 then (change_Check.j0 k true a0_0 a0_1 a0_2 l0_3 a0_4 a0_5 a0_6 a0_7 a0_8 a0_9 a0_10 a0_11 a0_12) else (change_Check.j0 k (decide (a0_4 > 5)) a0_0 a0_1 a0_2 l0_3 a0_4 a0_5 a0_6 a0_7 a0_8 a0_9 a0_10 a0_11 a0_12)) = some r := h
 clear h
 have HC2 := Aside0.mk H
 clear H
 go_enter Try.func34, Try.ntmps34
 go_upto_region 1 with (first | ((with_reducible refine gate_dst (N := 1) rfl ?_); refine box_event ?hg (N := 1) ?hd (cs := #[.int .i64 a0_0, .int .i64 a0_1, .int .i64 a0_2, .slice A0_3 l0_3.length c0_3, .int .i64 a0_4, .int .i64 a0_5, .int .i64 a0_6, .int .i64 a0_7, .int .i64 a0_8, .int .i64 a0_9, .int .i64 a0_10, .string a0_11, .string a0_12]) (t := 32) ?hr ?_; (case hd => rfl); (case hg => rfl); (case hr => first | (go_simp; done) | (go_simp; rfl)); intro gb132 hg w3 hbox hb; have n0_ := Aside0.mk (below_step (by repeat (first | (with_reducible first | exact HB.out | apply below_alloc | apply pw_below_drewN | apply below_drew1) | exact HB.out)) hb); have n1_ := Aside0.mk (hbox); have n2_ := Aside0.mk ((by rw [hg]; exact (below_size (by repeat (first | (with_reducible first | exact HB.out | apply below_alloc | apply pw_below_drewN | apply below_drew1) | exact HB.out))) : w.heap.size ≤ gb132)); have n3_ := Aside0.mk ((by rw [hg]; exact (below_size (by repeat (first | (with_reducible first | exact HB.out | apply below_alloc | apply pw_below_drewN | apply below_drew1) | exact HB.out))) : w.heap.size ≤ gb132)); clear HB; have HB := n0_; have BK132 := n1_; have GW132 := n2_; have GE132 := n3_; clear n0_ n1_ n2_ n3_; clear hb hbox hg))
 (try simp only [Act.put, List.setIfInBounds_toArray, List.set_cons_zero, List.set_cons_succ])
 go_cut [4] (fun v4 wc => ∃ (kq : Nat) (x4_1 : Bool), v4 = .bool x4_1 ∧ Aside0 (change_Check.j0 kq x4_1 a0_0 a0_1 a0_2 l0_3 a0_4 a0_5 a0_6 a0_7 a0_8 a0_9 a0_10 a0_11 a0_12 = some r) ∧ Aside0 (kq ≤ k) ∧ Aside0 (wc.heap[gb132]? = some (.cells #[.int .i64 a0_0, .int .i64 a0_1, .int .i64 a0_2, (.slice A0_3 l0_3.length c0_3), .int .i64 a0_4, .int .i64 a0_5, .int .i64 a0_6, .int .i64 a0_7, .int .i64 a0_8, .int .i64 a0_9, .int .i64 a0_10, .string a0_11, .string a0_12] 32 (0, 0))) ∧ Aside0 (Below w.heap.size w wc))
 case first =>
  have H := HC2.out
  clear HC2
  by_cases c4 : a0_4 < 1
  ·rw [if_pos c4] at H
   have c4b0 : decide (a0_4 < 1) = true := decide_eq_true c4
   clear c4
   (first | rw [c4b0] | (simp only [i64_w, i32_w]; rw [c4b0]) | skip)
   have H' := Aside0.mk H
   clear H
   obtain ⟨hcz5_0, hcz5_1, hcz5_2, hcz5_3, hcz5_4, hcz5_5, hcz5_6, hcz5_7, hcz5_8, hcz5_9, hcz5_10, hcz5_11, hcz5_12⟩ := cells13 BK132.out
   obtain ⟨hfz5_0, hfz5_1, hfz5_2, hfz5_3, hfz5_4, hfz5_5, hfz5_6, hfz5_7, hfz5_8, hfz5_9, hfz5_10, hfz5_11, hfz5_12⟩ := froz13 BK132.out
   go_wp2
   go_meet
   case rel => exact ⟨_, (true), (by first | rfl | (simp; done) | (simp [*]; done)), H', ⟨by first | omega | exact Nat.le_refl _⟩, ⟨by (with_reducible repeat (first | refine blk_drewN ?_ _ | refine blk_drew ?_ | refine blk_alloc ?_ _)); exact BK132.out⟩, ⟨by repeat (first | (with_reducible first | exact HB.out | apply below_alloc | apply pw_below_drewN | apply below_drew1 | refine below_set ?_ GE132.out) | exact HB.out)⟩⟩
  ·rw [if_neg c4] at H
   have c4b0 : decide (a0_4 < 1) = false := decide_eq_false c4
   clear c4
   (first | rw [c4b0] | (simp only [i64_w, i32_w]; rw [c4b0]) | skip)
   have H' := Aside0.mk H
   clear H
   obtain ⟨hcz6_0, hcz6_1, hcz6_2, hcz6_3, hcz6_4, hcz6_5, hcz6_6, hcz6_7, hcz6_8, hcz6_9, hcz6_10, hcz6_11, hcz6_12⟩ := cells13 BK132.out
   obtain ⟨hfz6_0, hfz6_1, hfz6_2, hfz6_3, hfz6_4, hfz6_5, hfz6_6, hfz6_7, hfz6_8, hfz6_9, hfz6_10, hfz6_11, hfz6_12⟩ := froz13 BK132.out
   go_wp2
   go_meet
   case rel => exact ⟨_, (decide (a0_4 > 5)), (by first | rfl | (simp; done) | (simp [*]; done)), H', ⟨by first | omega | exact Nat.le_refl _⟩, ⟨by (with_reducible repeat (first | refine blk_drewN ?_ _ | refine blk_drew ?_ | refine blk_alloc ?_ _)); exact BK132.out⟩, ⟨by repeat (first | (with_reducible first | exact HB.out | apply below_alloc | apply pw_below_drewN | apply below_drew1 | refine below_set ?_ GE132.out) | exact HB.out)⟩⟩
 case rest =>
  clear HC2
  (try clear p2); (try clear c3); (try clear c4); (try clear c4b0); (try clear hcz5_0 hcz5_1 hcz5_10 hcz5_11 hcz5_12 hcz5_2 hcz5_3 hcz5_4 hcz5_5 hcz5_6 hcz5_7 hcz5_8 hcz5_9); (try clear hcz6_0 hcz6_1 hcz6_10 hcz6_11 hcz6_12 hcz6_2 hcz6_3 hcz6_4 hcz6_5 hcz6_6 hcz6_7 hcz6_8 hcz6_9); (try clear hfz5_0 hfz5_1 hfz5_10 hfz5_11 hfz5_12 hfz5_2 hfz5_3 hfz5_4 hfz5_5 hfz5_6 hfz5_7 hfz5_8 hfz5_9); (try clear hfz6_0 hfz6_1 hfz6_10 hfz6_11 hfz6_12 hfz6_2 hfz6_3 hfz6_4 hfz6_5 hfz6_6 hfz6_7 hfz6_8 hfz6_9)
  obtain ⟨kq, x4_1, rfl, HA, HJ1, BK132, HB⟩ := hcut
  cases kq with
  | zero => exact absurd HA.out (by simp [change_Check.j0])
  | succ kj1 =>
   have H := HA.out
   clear HA
   simp only [change_Check.j0] at H
   by_cases c7 : x4_1 = true
   ·subst c7
    have H1 : (some 1) = some r := by rw [if_pos rfl] at H; exact H
    clear H
    have H := H1
    clear H1
    obtain rfl := Option.some.inj H
    go_wp2
    go_ret
    exact ⟨by first | rfl | (simp [errW_none, errW_some] <;> rfl) | (simp [*, errW_none, errW_some] <;> rfl), by repeat (first | (with_reducible first | exact HB.out | apply below_alloc | apply pw_below_drewN | apply below_drew1 | refine below_set ?_ GE132.out) | exact HB.out)⟩
   ·replace c7 := Bool.eq_false_iff.mpr c7
    subst c7
    have H1 : ((ident_Right.f a0_0 a0_1).bind fun t133 => (if t133 = true then (if a0_2 < 1 then (some 1) else (if a0_2 > a0_0 then (some 1) else ((change_deps.f kj1 a0_0 a0_1 a0_2 l0_3 a0_4 a0_5 a0_6 a0_7 a0_8 a0_9 a0_10 a0_11 a0_12).bind fun t134 => (if t134 = 0 then ((change_node.f a0_0 a0_1 a0_2 l0_3 a0_4 a0_5 a0_6 a0_7 a0_8 a0_9 a0_10 a0_11 a0_12).bind fun t135 => (if t135 = true then ((change_place.f kj1 a0_0 a0_1 a0_2 l0_3 a0_4 a0_5 a0_6 a0_7 a0_8 a0_9 a0_10 a0_11 a0_12).bind fun t136 => (if t136 = true then ((change_words.f kj1 a0_0 a0_1 a0_2 l0_3 a0_4 a0_5 a0_6 a0_7 a0_8 a0_9 a0_10 a0_11 a0_12).bind fun t137 => (some t137)) else (some 2))) else (some 2))) else (some t134))))) else (some 2))) = some r := by rw [if_neg (show ¬ (false = true) by decide)] at H; exact H
    clear H
    have H := H1
    clear H1
    replace H := Option.bind_eq_some_iff.mp H
    obtain ⟨t133, A80, H⟩ := H
    replace H : (if t133 = true then (if a0_2 < 1 then (some 1) else (if a0_2 > a0_0 then (some 1) else ((change_deps.f kj1 a0_0 a0_1 a0_2 l0_3 a0_4 a0_5 a0_6 a0_7 a0_8 a0_9 a0_10 a0_11 a0_12).bind fun t134 => (if t134 = 0 then ((change_node.f a0_0 a0_1 a0_2 l0_3 a0_4 a0_5 a0_6 a0_7 a0_8 a0_9 a0_10 a0_11 a0_12).bind fun t135 => (if t135 = true then ((change_place.f kj1 a0_0 a0_1 a0_2 l0_3 a0_4 a0_5 a0_6 a0_7 a0_8 a0_9 a0_10 a0_11 a0_12).bind fun t136 => (if t136 = true then ((change_words.f kj1 a0_0 a0_1 a0_2 l0_3 a0_4 a0_5 a0_6 a0_7 a0_8 a0_9 a0_10 a0_11 a0_12).bind fun t137 => (some t137)) else (some 2))) else (some 2))) else (some t134))))) else (some 2)) = some r := H
    have A8 := Aside0.mk A80
    clear A80
    by_cases c9 : t133 = true
    ·subst c9
     have H1 : (if a0_2 < 1 then (some 1) else (if a0_2 > a0_0 then (some 1) else ((change_deps.f kj1 a0_0 a0_1 a0_2 l0_3 a0_4 a0_5 a0_6 a0_7 a0_8 a0_9 a0_10 a0_11 a0_12).bind fun t134 => (if t134 = 0 then ((change_node.f a0_0 a0_1 a0_2 l0_3 a0_4 a0_5 a0_6 a0_7 a0_8 a0_9 a0_10 a0_11 a0_12).bind fun t135 => (if t135 = true then ((change_place.f kj1 a0_0 a0_1 a0_2 l0_3 a0_4 a0_5 a0_6 a0_7 a0_8 a0_9 a0_10 a0_11 a0_12).bind fun t136 => (if t136 = true then ((change_words.f kj1 a0_0 a0_1 a0_2 l0_3 a0_4 a0_5 a0_6 a0_7 a0_8 a0_9 a0_10 a0_11 a0_12).bind fun t137 => (some t137)) else (some 2))) else (some 2))) else (some t134))))) = some r := by rw [if_pos rfl] at H; exact H
     clear H
     have H := H1
     clear H1
     by_cases c10 : a0_2 < 1
     ·rw [if_pos c10] at H
      have c10b0 : decide (a0_2 < 1) = true := decide_eq_true c10
      clear c10
      obtain rfl := Option.some.inj H
      obtain ⟨hcz11_0, hcz11_1, hcz11_2, hcz11_3, hcz11_4, hcz11_5, hcz11_6, hcz11_7, hcz11_8, hcz11_9, hcz11_10, hcz11_11, hcz11_12⟩ := cells13 BK132.out
      obtain ⟨hfz11_0, hfz11_1, hfz11_2, hfz11_3, hfz11_4, hfz11_5, hfz11_6, hfz11_7, hfz11_8, hfz11_9, hfz11_10, hfz11_11, hfz11_12⟩ := froz13 BK132.out
      go_wp2_with (first | ((with_reducible refine gate_callee (f := 61) rfl ?_); refine goesL_ (some 16) rfl rfl Try.func61 (by kernel_rfl) rfl #[.agg #[.int .i64 a0_0, .int .i64 a0_1]] rfl (by (try simp only [List.map_toArray, List.map_cons, List.map_nil]); first | done | rfl | (simp only [List.length_drop, List.length_take]; rfl)) ?_; (with_reducible refine (ident_Right.calls a0_0 a0_1 true _ A8.out).mono ?_); rintro e w12 ⟨rfl, hb⟩; refine ⟨_, rfl, ?_⟩; have n0_ := Aside0.mk (blk_below (g := gb132) (o := .cells #[.int .i64 a0_0, .int .i64 a0_1, .int .i64 a0_2, .slice A0_3 l0_3.length c0_3, .int .i64 a0_4, .int .i64 a0_5, .int .i64 a0_6, .int .i64 a0_7, .int .i64 a0_8, .int .i64 a0_9, .int .i64 a0_10, .string a0_11, .string a0_12] 32 (0, 0)) (by (with_reducible repeat (first | refine blk_drewN ?_ _ | refine blk_drew ?_ | refine blk_alloc ?_ _)); exact BK132.out) hb); have n1_ := Aside0.mk (below_step (by repeat (first | (with_reducible first | exact HB.out | apply below_alloc | apply pw_below_drewN | apply below_drew1 | refine below_set ?_ GE132.out) | exact HB.out)) hb); clear BK132; clear HB; have BK132 := n0_; have HB := n1_; clear n0_ n1_; (try clear hb); (try clear hb2); (try clear hk); (try clear hi); obtain ⟨hcz13_0, hcz13_1, hcz13_2, hcz13_3, hcz13_4, hcz13_5, hcz13_6, hcz13_7, hcz13_8, hcz13_9, hcz13_10, hcz13_11, hcz13_12⟩ := cells13 BK132.out; obtain ⟨hfz13_0, hfz13_1, hfz13_2, hfz13_3, hfz13_4, hfz13_5, hfz13_6, hfz13_7, hfz13_8, hfz13_9, hfz13_10, hfz13_11, hfz13_12⟩ := froz13 BK132.out))
      go_ret
      exact ⟨by first | rfl | (simp [errW_none, errW_some] <;> rfl) | (simp [*, errW_none, errW_some] <;> rfl), by repeat (first | (with_reducible first | exact HB.out | apply below_alloc | apply pw_below_drewN | apply below_drew1 | refine below_set ?_ GE132.out) | exact HB.out)⟩
     ·rw [if_neg c10] at H
      have c10b0 : decide (a0_2 < 1) = false := decide_eq_false c10
      clear c10
      by_cases c14 : a0_2 > a0_0
      ·rw [if_pos c14] at H
       have c14b0 : decide (a0_0 < a0_2) = true := decide_eq_true c14
       clear c14
       obtain rfl := Option.some.inj H
       obtain ⟨hcz15_0, hcz15_1, hcz15_2, hcz15_3, hcz15_4, hcz15_5, hcz15_6, hcz15_7, hcz15_8, hcz15_9, hcz15_10, hcz15_11, hcz15_12⟩ := cells13 BK132.out
       obtain ⟨hfz15_0, hfz15_1, hfz15_2, hfz15_3, hfz15_4, hfz15_5, hfz15_6, hfz15_7, hfz15_8, hfz15_9, hfz15_10, hfz15_11, hfz15_12⟩ := froz13 BK132.out
       go_wp2_with (first | ((with_reducible refine gate_callee (f := 61) rfl ?_); refine goesL_ (some 16) rfl rfl Try.func61 (by kernel_rfl) rfl #[.agg #[.int .i64 a0_0, .int .i64 a0_1]] rfl (by (try simp only [List.map_toArray, List.map_cons, List.map_nil]); first | done | rfl | (simp only [List.length_drop, List.length_take]; rfl)) ?_; (with_reducible refine (ident_Right.calls a0_0 a0_1 true _ A8.out).mono ?_); rintro e w16 ⟨rfl, hb⟩; refine ⟨_, rfl, ?_⟩; have n0_ := Aside0.mk (blk_below (g := gb132) (o := .cells #[.int .i64 a0_0, .int .i64 a0_1, .int .i64 a0_2, .slice A0_3 l0_3.length c0_3, .int .i64 a0_4, .int .i64 a0_5, .int .i64 a0_6, .int .i64 a0_7, .int .i64 a0_8, .int .i64 a0_9, .int .i64 a0_10, .string a0_11, .string a0_12] 32 (0, 0)) (by (with_reducible repeat (first | refine blk_drewN ?_ _ | refine blk_drew ?_ | refine blk_alloc ?_ _)); exact BK132.out) hb); have n1_ := Aside0.mk (below_step (by repeat (first | (with_reducible first | exact HB.out | apply below_alloc | apply pw_below_drewN | apply below_drew1 | refine below_set ?_ GE132.out) | exact HB.out)) hb); clear BK132; clear HB; have BK132 := n0_; have HB := n1_; clear n0_ n1_; (try clear hb); (try clear hb2); (try clear hk); (try clear hi); obtain ⟨hcz17_0, hcz17_1, hcz17_2, hcz17_3, hcz17_4, hcz17_5, hcz17_6, hcz17_7, hcz17_8, hcz17_9, hcz17_10, hcz17_11, hcz17_12⟩ := cells13 BK132.out; obtain ⟨hfz17_0, hfz17_1, hfz17_2, hfz17_3, hfz17_4, hfz17_5, hfz17_6, hfz17_7, hfz17_8, hfz17_9, hfz17_10, hfz17_11, hfz17_12⟩ := froz13 BK132.out))
       go_ret
       exact ⟨by first | rfl | (simp [errW_none, errW_some] <;> rfl) | (simp [*, errW_none, errW_some] <;> rfl), by repeat (first | (with_reducible first | exact HB.out | apply below_alloc | apply pw_below_drewN | apply below_drew1 | refine below_set ?_ GE132.out) | exact HB.out)⟩
      ·rw [if_neg c14] at H
       have c14b0 : decide (a0_0 < a0_2) = false := decide_eq_false c14
       clear c14
       replace H := Option.bind_eq_some_iff.mp H
       obtain ⟨t134, A180, H⟩ := H
       replace H : (if t134 = 0 then ((change_node.f a0_0 a0_1 a0_2 l0_3 a0_4 a0_5 a0_6 a0_7 a0_8 a0_9 a0_10 a0_11 a0_12).bind fun t135 => (if t135 = true then ((change_place.f kj1 a0_0 a0_1 a0_2 l0_3 a0_4 a0_5 a0_6 a0_7 a0_8 a0_9 a0_10 a0_11 a0_12).bind fun t136 => (if t136 = true then ((change_words.f kj1 a0_0 a0_1 a0_2 l0_3 a0_4 a0_5 a0_6 a0_7 a0_8 a0_9 a0_10 a0_11 a0_12).bind fun t137 => (some t137)) else (some 2))) else (some 2))) else (some t134)) = some r := H
       have A18 := Aside0.mk A180
       clear A180
       by_cases c19 : t134 = 0
       ·rw [if_pos c19] at H
        have c19b0 : (t134 == 0) = true := beq_iff_eq.mpr c19
        have c19b1 : (t134 != 0) = false := bne_eq_false_iff_eq.mpr c19
        clear c19
        replace H := Option.bind_eq_some_iff.mp H
        obtain ⟨t135, A200, H⟩ := H
        replace H : (if t135 = true then ((change_place.f kj1 a0_0 a0_1 a0_2 l0_3 a0_4 a0_5 a0_6 a0_7 a0_8 a0_9 a0_10 a0_11 a0_12).bind fun t136 => (if t136 = true then ((change_words.f kj1 a0_0 a0_1 a0_2 l0_3 a0_4 a0_5 a0_6 a0_7 a0_8 a0_9 a0_10 a0_11 a0_12).bind fun t137 => (some t137)) else (some 2))) else (some 2)) = some r := H
        have A20 := Aside0.mk A200
        clear A200
        by_cases c21 : t135 = true
        ·subst c21
         have H1 : ((change_place.f kj1 a0_0 a0_1 a0_2 l0_3 a0_4 a0_5 a0_6 a0_7 a0_8 a0_9 a0_10 a0_11 a0_12).bind fun t136 => (if t136 = true then ((change_words.f kj1 a0_0 a0_1 a0_2 l0_3 a0_4 a0_5 a0_6 a0_7 a0_8 a0_9 a0_10 a0_11 a0_12).bind fun t137 => (some t137)) else (some 2))) = some r := by rw [if_pos rfl] at H; exact H
         clear H
         have H := H1
         clear H1
         replace H := Option.bind_eq_some_iff.mp H
         obtain ⟨t136, A220, H⟩ := H
         replace H : (if t136 = true then ((change_words.f kj1 a0_0 a0_1 a0_2 l0_3 a0_4 a0_5 a0_6 a0_7 a0_8 a0_9 a0_10 a0_11 a0_12).bind fun t137 => (some t137)) else (some 2)) = some r := H
         have A22 := Aside0.mk A220
         clear A220
         by_cases c23 : t136 = true
         ·subst c23
          have H1 : ((change_words.f kj1 a0_0 a0_1 a0_2 l0_3 a0_4 a0_5 a0_6 a0_7 a0_8 a0_9 a0_10 a0_11 a0_12).bind fun t137 => (some t137)) = some r := by rw [if_pos rfl] at H; exact H
          clear H
          have H := H1
          clear H1
          replace H := Option.bind_eq_some_iff.mp H
          obtain ⟨t137, A240, H⟩ := H
          replace H : (some t137) = some r := H
          have A24 := Aside0.mk A240
          clear A240
          obtain rfl := Option.some.inj H
          obtain ⟨hcz25_0, hcz25_1, hcz25_2, hcz25_3, hcz25_4, hcz25_5, hcz25_6, hcz25_7, hcz25_8, hcz25_9, hcz25_10, hcz25_11, hcz25_12⟩ := cells13 BK132.out
          obtain ⟨hfz25_0, hfz25_1, hfz25_2, hfz25_3, hfz25_4, hfz25_5, hfz25_6, hfz25_7, hfz25_8, hfz25_9, hfz25_10, hfz25_11, hfz25_12⟩ := froz13 BK132.out
          go_wp2_with (first | ((with_reducible refine gate_callee (f := 61) rfl ?_); refine goesL_ (some 16) rfl rfl Try.func61 (by kernel_rfl) rfl #[.agg #[.int .i64 a0_0, .int .i64 a0_1]] rfl (by (try simp only [List.map_toArray, List.map_cons, List.map_nil]); first | done | rfl | (simp only [List.length_drop, List.length_take]; rfl)) ?_; (with_reducible refine (ident_Right.calls a0_0 a0_1 true _ A8.out).mono ?_); rintro e w26 ⟨rfl, hb⟩; refine ⟨_, rfl, ?_⟩; have n0_ := Aside0.mk (blk_below (g := gb132) (o := .cells #[.int .i64 a0_0, .int .i64 a0_1, .int .i64 a0_2, .slice A0_3 l0_3.length c0_3, .int .i64 a0_4, .int .i64 a0_5, .int .i64 a0_6, .int .i64 a0_7, .int .i64 a0_8, .int .i64 a0_9, .int .i64 a0_10, .string a0_11, .string a0_12] 32 (0, 0)) (by (with_reducible repeat (first | refine blk_drewN ?_ _ | refine blk_drew ?_ | refine blk_alloc ?_ _)); exact BK132.out) hb); have n1_ := Aside0.mk (below_step (by repeat (first | (with_reducible first | exact HB.out | apply below_alloc | apply pw_below_drewN | apply below_drew1 | refine below_set ?_ GE132.out) | exact HB.out)) hb); clear BK132; clear HB; have BK132 := n0_; have HB := n1_; clear n0_ n1_; (try clear hb); (try clear hb2); (try clear hk); (try clear hi); obtain ⟨hcz27_0, hcz27_1, hcz27_2, hcz27_3, hcz27_4, hcz27_5, hcz27_6, hcz27_7, hcz27_8, hcz27_9, hcz27_10, hcz27_11, hcz27_12⟩ := cells13 BK132.out; obtain ⟨hfz27_0, hfz27_1, hfz27_2, hfz27_3, hfz27_4, hfz27_5, hfz27_6, hfz27_7, hfz27_8, hfz27_9, hfz27_10, hfz27_11, hfz27_12⟩ := froz13 BK132.out) | ((with_reducible refine gate_callee (f := 62) rfl ?_); refine goesL_ (some 31) rfl rfl Try.func62 (by kernel_rfl) rfl #[.agg #[.int .i64 a0_0, .int .i64 a0_1, .int .i64 a0_2, .slice A0_3 l0_3.length c0_3, .int .i64 a0_4, .int .i64 a0_5, .int .i64 a0_6, .int .i64 a0_7, .int .i64 a0_8, .int .i64 a0_9, .int .i64 a0_10, .string a0_11, .string a0_12]] rfl (by (try simp only [List.map_toArray, List.map_cons, List.map_nil]); first | done | rfl | (simp only [List.length_drop, List.length_take]; rfl)) ?_; (with_reducible refine (change_deps.calls kj1 a0_0 a0_1 a0_2 _ _ l0_3 a0_4 a0_5 a0_6 a0_7 a0_8 a0_9 a0_10 a0_11 a0_12 t134 _ ?side1 ?side2 A18.out).mono ?_); (case side1 => repeat (first | exact (Kd.C_below HR0_3.out HB.out) | (with_reducible refine Kd.C_alloc ?_ _) | (with_reducible refine Kd.C_drewN ?_ _) | (with_reducible refine Kd.C_drew ?_))); (case side2 => exact HC0_3.out); rintro e w28 ⟨rfl, hb⟩; refine ⟨_, rfl, ?_⟩; have n0_ := Aside0.mk (blk_below (g := gb132) (o := .cells #[.int .i64 a0_0, .int .i64 a0_1, .int .i64 a0_2, .slice A0_3 l0_3.length c0_3, .int .i64 a0_4, .int .i64 a0_5, .int .i64 a0_6, .int .i64 a0_7, .int .i64 a0_8, .int .i64 a0_9, .int .i64 a0_10, .string a0_11, .string a0_12] 32 (0, 0)) (by (with_reducible repeat (first | refine blk_drewN ?_ _ | refine blk_drew ?_ | refine blk_alloc ?_ _)); exact BK132.out) hb); have n1_ := Aside0.mk (below_step (by repeat (first | (with_reducible first | exact HB.out | apply below_alloc | apply pw_below_drewN | apply below_drew1 | refine below_set ?_ GE132.out) | exact HB.out)) hb); clear BK132; clear HB; have BK132 := n0_; have HB := n1_; clear n0_ n1_; (try clear hb); (try clear hb2); (try clear hk); (try clear hi); obtain ⟨hcz29_0, hcz29_1, hcz29_2, hcz29_3, hcz29_4, hcz29_5, hcz29_6, hcz29_7, hcz29_8, hcz29_9, hcz29_10, hcz29_11, hcz29_12⟩ := cells13 BK132.out; obtain ⟨hfz29_0, hfz29_1, hfz29_2, hfz29_3, hfz29_4, hfz29_5, hfz29_6, hfz29_7, hfz29_8, hfz29_9, hfz29_10, hfz29_11, hfz29_12⟩ := froz13 BK132.out) | ((with_reducible refine gate_callee (f := 63) rfl ?_); refine goesL_ (some 36) rfl rfl Try.func63 (by kernel_rfl) rfl #[.agg #[.int .i64 a0_0, .int .i64 a0_1, .int .i64 a0_2, .slice A0_3 l0_3.length c0_3, .int .i64 a0_4, .int .i64 a0_5, .int .i64 a0_6, .int .i64 a0_7, .int .i64 a0_8, .int .i64 a0_9, .int .i64 a0_10, .string a0_11, .string a0_12]] rfl (by (try simp only [List.map_toArray, List.map_cons, List.map_nil]); first | done | rfl | (simp only [List.length_drop, List.length_take]; rfl)) ?_; (with_reducible refine (change_node.calls a0_0 a0_1 a0_2 _ _ l0_3 a0_4 a0_5 a0_6 a0_7 a0_8 a0_9 a0_10 a0_11 a0_12 true _ ?side1 ?side2 A20.out).mono ?_); (case side1 => repeat (first | exact (Kd.C_below HR0_3.out HB.out) | (with_reducible refine Kd.C_alloc ?_ _) | (with_reducible refine Kd.C_drewN ?_ _) | (with_reducible refine Kd.C_drew ?_))); (case side2 => exact HC0_3.out); rintro e w30 ⟨rfl, hb⟩; refine ⟨_, rfl, ?_⟩; have n0_ := Aside0.mk (blk_below (g := gb132) (o := .cells #[.int .i64 a0_0, .int .i64 a0_1, .int .i64 a0_2, .slice A0_3 l0_3.length c0_3, .int .i64 a0_4, .int .i64 a0_5, .int .i64 a0_6, .int .i64 a0_7, .int .i64 a0_8, .int .i64 a0_9, .int .i64 a0_10, .string a0_11, .string a0_12] 32 (0, 0)) (by (with_reducible repeat (first | refine blk_drewN ?_ _ | refine blk_drew ?_ | refine blk_alloc ?_ _)); exact BK132.out) hb); have n1_ := Aside0.mk (below_step (by repeat (first | (with_reducible first | exact HB.out | apply below_alloc | apply pw_below_drewN | apply below_drew1 | refine below_set ?_ GE132.out) | exact HB.out)) hb); clear BK132; clear HB; have BK132 := n0_; have HB := n1_; clear n0_ n1_; (try clear hb); (try clear hb2); (try clear hk); (try clear hi); obtain ⟨hcz31_0, hcz31_1, hcz31_2, hcz31_3, hcz31_4, hcz31_5, hcz31_6, hcz31_7, hcz31_8, hcz31_9, hcz31_10, hcz31_11, hcz31_12⟩ := cells13 BK132.out; obtain ⟨hfz31_0, hfz31_1, hfz31_2, hfz31_3, hfz31_4, hfz31_5, hfz31_6, hfz31_7, hfz31_8, hfz31_9, hfz31_10, hfz31_11, hfz31_12⟩ := froz13 BK132.out) | (go_at_call 64; (try simp only [← List.length_take, ← List.length_drop]); (with_reducible refine (change_place.calls kj1 a0_0 a0_1 a0_2 _ _ l0_3 a0_4 a0_5 a0_6 a0_7 a0_8 a0_9 a0_10 a0_11 a0_12 true _ ?side1 ?side2 A22.out).mono ?_); (case side1 => repeat (first | exact (Kd.C_below HR0_3.out HB.out) | (with_reducible refine Kd.C_alloc ?_ _) | (with_reducible refine Kd.C_drewN ?_ _) | (with_reducible refine Kd.C_drew ?_))); (case side2 => exact HC0_3.out); rintro e w32 ⟨rfl, hb⟩; have n0_ := Aside0.mk (blk_below (g := gb132) (o := .cells #[.int .i64 a0_0, .int .i64 a0_1, .int .i64 a0_2, .slice A0_3 l0_3.length c0_3, .int .i64 a0_4, .int .i64 a0_5, .int .i64 a0_6, .int .i64 a0_7, .int .i64 a0_8, .int .i64 a0_9, .int .i64 a0_10, .string a0_11, .string a0_12] 32 (0, 0)) (by (with_reducible repeat (first | refine blk_drewN ?_ _ | refine blk_drew ?_ | refine blk_alloc ?_ _)); exact BK132.out) hb); have n1_ := Aside0.mk (below_step (by repeat (first | (with_reducible first | exact HB.out | apply below_alloc | apply pw_below_drewN | apply below_drew1 | refine below_set ?_ GE132.out) | exact HB.out)) hb); clear BK132; clear HB; have BK132 := n0_; have HB := n1_; clear n0_ n1_; (try clear hb); (try clear hb2); (try clear hk); (try clear hi); obtain ⟨hcz33_0, hcz33_1, hcz33_2, hcz33_3, hcz33_4, hcz33_5, hcz33_6, hcz33_7, hcz33_8, hcz33_9, hcz33_10, hcz33_11, hcz33_12⟩ := cells13 BK132.out; obtain ⟨hfz33_0, hfz33_1, hfz33_2, hfz33_3, hfz33_4, hfz33_5, hfz33_6, hfz33_7, hfz33_8, hfz33_9, hfz33_10, hfz33_11, hfz33_12⟩ := froz13 BK132.out) | ((with_reducible refine gate_callee (f := 65) rfl ?_); refine goesL_ (some 44) rfl rfl Try.func65 (by kernel_rfl) rfl #[.agg #[.int .i64 a0_0, .int .i64 a0_1, .int .i64 a0_2, .slice A0_3 l0_3.length c0_3, .int .i64 a0_4, .int .i64 a0_5, .int .i64 a0_6, .int .i64 a0_7, .int .i64 a0_8, .int .i64 a0_9, .int .i64 a0_10, .string a0_11, .string a0_12]] rfl (by (try simp only [List.map_toArray, List.map_cons, List.map_nil]); first | done | rfl | (simp only [List.length_drop, List.length_take]; rfl)) ?_; (with_reducible refine (change_words.calls kj1 a0_0 a0_1 a0_2 _ _ l0_3 a0_4 a0_5 a0_6 a0_7 a0_8 a0_9 a0_10 a0_11 a0_12 t137 _ ?side1 ?side2 A24.out).mono ?_); (case side1 => repeat (first | exact (Kd.C_below HR0_3.out HB.out) | (with_reducible refine Kd.C_alloc ?_ _) | (with_reducible refine Kd.C_drewN ?_ _) | (with_reducible refine Kd.C_drew ?_))); (case side2 => exact HC0_3.out); rintro e w34 ⟨rfl, hb⟩; refine ⟨_, rfl, ?_⟩; have n0_ := Aside0.mk (blk_below (g := gb132) (o := .cells #[.int .i64 a0_0, .int .i64 a0_1, .int .i64 a0_2, .slice A0_3 l0_3.length c0_3, .int .i64 a0_4, .int .i64 a0_5, .int .i64 a0_6, .int .i64 a0_7, .int .i64 a0_8, .int .i64 a0_9, .int .i64 a0_10, .string a0_11, .string a0_12] 32 (0, 0)) (by (with_reducible repeat (first | refine blk_drewN ?_ _ | refine blk_drew ?_ | refine blk_alloc ?_ _)); exact BK132.out) hb); have n1_ := Aside0.mk (below_step (by repeat (first | (with_reducible first | exact HB.out | apply below_alloc | apply pw_below_drewN | apply below_drew1 | refine below_set ?_ GE132.out) | exact HB.out)) hb); clear BK132; clear HB; have BK132 := n0_; have HB := n1_; clear n0_ n1_; (try clear hb); (try clear hb2); (try clear hk); (try clear hi)))
          go_ret
          exact ⟨by first | rfl | (simp [errW_none, errW_some] <;> rfl) | (simp [*, errW_none, errW_some] <;> rfl), by repeat (first | (with_reducible first | exact HB.out | apply below_alloc | apply pw_below_drewN | apply below_drew1 | refine below_set ?_ GE132.out) | exact HB.out)⟩
         ·replace c23 := Bool.eq_false_iff.mpr c23
          subst c23
          have H1 : (some 2) = some r := by rw [if_neg (show ¬ (false = true) by decide)] at H; exact H
          clear H
          have H := H1
          clear H1
          obtain rfl := Option.some.inj H
          obtain ⟨hcz35_0, hcz35_1, hcz35_2, hcz35_3, hcz35_4, hcz35_5, hcz35_6, hcz35_7, hcz35_8, hcz35_9, hcz35_10, hcz35_11, hcz35_12⟩ := cells13 BK132.out
          obtain ⟨hfz35_0, hfz35_1, hfz35_2, hfz35_3, hfz35_4, hfz35_5, hfz35_6, hfz35_7, hfz35_8, hfz35_9, hfz35_10, hfz35_11, hfz35_12⟩ := froz13 BK132.out
          go_wp2_with (first | ((with_reducible refine gate_callee (f := 61) rfl ?_); refine goesL_ (some 16) rfl rfl Try.func61 (by kernel_rfl) rfl #[.agg #[.int .i64 a0_0, .int .i64 a0_1]] rfl (by (try simp only [List.map_toArray, List.map_cons, List.map_nil]); first | done | rfl | (simp only [List.length_drop, List.length_take]; rfl)) ?_; (with_reducible refine (ident_Right.calls a0_0 a0_1 true _ A8.out).mono ?_); rintro e w36 ⟨rfl, hb⟩; refine ⟨_, rfl, ?_⟩; have n0_ := Aside0.mk (blk_below (g := gb132) (o := .cells #[.int .i64 a0_0, .int .i64 a0_1, .int .i64 a0_2, .slice A0_3 l0_3.length c0_3, .int .i64 a0_4, .int .i64 a0_5, .int .i64 a0_6, .int .i64 a0_7, .int .i64 a0_8, .int .i64 a0_9, .int .i64 a0_10, .string a0_11, .string a0_12] 32 (0, 0)) (by (with_reducible repeat (first | refine blk_drewN ?_ _ | refine blk_drew ?_ | refine blk_alloc ?_ _)); exact BK132.out) hb); have n1_ := Aside0.mk (below_step (by repeat (first | (with_reducible first | exact HB.out | apply below_alloc | apply pw_below_drewN | apply below_drew1 | refine below_set ?_ GE132.out) | exact HB.out)) hb); clear BK132; clear HB; have BK132 := n0_; have HB := n1_; clear n0_ n1_; (try clear hb); (try clear hb2); (try clear hk); (try clear hi); obtain ⟨hcz37_0, hcz37_1, hcz37_2, hcz37_3, hcz37_4, hcz37_5, hcz37_6, hcz37_7, hcz37_8, hcz37_9, hcz37_10, hcz37_11, hcz37_12⟩ := cells13 BK132.out; obtain ⟨hfz37_0, hfz37_1, hfz37_2, hfz37_3, hfz37_4, hfz37_5, hfz37_6, hfz37_7, hfz37_8, hfz37_9, hfz37_10, hfz37_11, hfz37_12⟩ := froz13 BK132.out) | ((with_reducible refine gate_callee (f := 62) rfl ?_); refine goesL_ (some 31) rfl rfl Try.func62 (by kernel_rfl) rfl #[.agg #[.int .i64 a0_0, .int .i64 a0_1, .int .i64 a0_2, .slice A0_3 l0_3.length c0_3, .int .i64 a0_4, .int .i64 a0_5, .int .i64 a0_6, .int .i64 a0_7, .int .i64 a0_8, .int .i64 a0_9, .int .i64 a0_10, .string a0_11, .string a0_12]] rfl (by (try simp only [List.map_toArray, List.map_cons, List.map_nil]); first | done | rfl | (simp only [List.length_drop, List.length_take]; rfl)) ?_; (with_reducible refine (change_deps.calls kj1 a0_0 a0_1 a0_2 _ _ l0_3 a0_4 a0_5 a0_6 a0_7 a0_8 a0_9 a0_10 a0_11 a0_12 t134 _ ?side1 ?side2 A18.out).mono ?_); (case side1 => repeat (first | exact (Kd.C_below HR0_3.out HB.out) | (with_reducible refine Kd.C_alloc ?_ _) | (with_reducible refine Kd.C_drewN ?_ _) | (with_reducible refine Kd.C_drew ?_))); (case side2 => exact HC0_3.out); rintro e w38 ⟨rfl, hb⟩; refine ⟨_, rfl, ?_⟩; have n0_ := Aside0.mk (blk_below (g := gb132) (o := .cells #[.int .i64 a0_0, .int .i64 a0_1, .int .i64 a0_2, .slice A0_3 l0_3.length c0_3, .int .i64 a0_4, .int .i64 a0_5, .int .i64 a0_6, .int .i64 a0_7, .int .i64 a0_8, .int .i64 a0_9, .int .i64 a0_10, .string a0_11, .string a0_12] 32 (0, 0)) (by (with_reducible repeat (first | refine blk_drewN ?_ _ | refine blk_drew ?_ | refine blk_alloc ?_ _)); exact BK132.out) hb); have n1_ := Aside0.mk (below_step (by repeat (first | (with_reducible first | exact HB.out | apply below_alloc | apply pw_below_drewN | apply below_drew1 | refine below_set ?_ GE132.out) | exact HB.out)) hb); clear BK132; clear HB; have BK132 := n0_; have HB := n1_; clear n0_ n1_; (try clear hb); (try clear hb2); (try clear hk); (try clear hi); obtain ⟨hcz39_0, hcz39_1, hcz39_2, hcz39_3, hcz39_4, hcz39_5, hcz39_6, hcz39_7, hcz39_8, hcz39_9, hcz39_10, hcz39_11, hcz39_12⟩ := cells13 BK132.out; obtain ⟨hfz39_0, hfz39_1, hfz39_2, hfz39_3, hfz39_4, hfz39_5, hfz39_6, hfz39_7, hfz39_8, hfz39_9, hfz39_10, hfz39_11, hfz39_12⟩ := froz13 BK132.out) | ((with_reducible refine gate_callee (f := 63) rfl ?_); refine goesL_ (some 36) rfl rfl Try.func63 (by kernel_rfl) rfl #[.agg #[.int .i64 a0_0, .int .i64 a0_1, .int .i64 a0_2, .slice A0_3 l0_3.length c0_3, .int .i64 a0_4, .int .i64 a0_5, .int .i64 a0_6, .int .i64 a0_7, .int .i64 a0_8, .int .i64 a0_9, .int .i64 a0_10, .string a0_11, .string a0_12]] rfl (by (try simp only [List.map_toArray, List.map_cons, List.map_nil]); first | done | rfl | (simp only [List.length_drop, List.length_take]; rfl)) ?_; (with_reducible refine (change_node.calls a0_0 a0_1 a0_2 _ _ l0_3 a0_4 a0_5 a0_6 a0_7 a0_8 a0_9 a0_10 a0_11 a0_12 true _ ?side1 ?side2 A20.out).mono ?_); (case side1 => repeat (first | exact (Kd.C_below HR0_3.out HB.out) | (with_reducible refine Kd.C_alloc ?_ _) | (with_reducible refine Kd.C_drewN ?_ _) | (with_reducible refine Kd.C_drew ?_))); (case side2 => exact HC0_3.out); rintro e w40 ⟨rfl, hb⟩; refine ⟨_, rfl, ?_⟩; have n0_ := Aside0.mk (blk_below (g := gb132) (o := .cells #[.int .i64 a0_0, .int .i64 a0_1, .int .i64 a0_2, .slice A0_3 l0_3.length c0_3, .int .i64 a0_4, .int .i64 a0_5, .int .i64 a0_6, .int .i64 a0_7, .int .i64 a0_8, .int .i64 a0_9, .int .i64 a0_10, .string a0_11, .string a0_12] 32 (0, 0)) (by (with_reducible repeat (first | refine blk_drewN ?_ _ | refine blk_drew ?_ | refine blk_alloc ?_ _)); exact BK132.out) hb); have n1_ := Aside0.mk (below_step (by repeat (first | (with_reducible first | exact HB.out | apply below_alloc | apply pw_below_drewN | apply below_drew1 | refine below_set ?_ GE132.out) | exact HB.out)) hb); clear BK132; clear HB; have BK132 := n0_; have HB := n1_; clear n0_ n1_; (try clear hb); (try clear hb2); (try clear hk); (try clear hi); obtain ⟨hcz41_0, hcz41_1, hcz41_2, hcz41_3, hcz41_4, hcz41_5, hcz41_6, hcz41_7, hcz41_8, hcz41_9, hcz41_10, hcz41_11, hcz41_12⟩ := cells13 BK132.out; obtain ⟨hfz41_0, hfz41_1, hfz41_2, hfz41_3, hfz41_4, hfz41_5, hfz41_6, hfz41_7, hfz41_8, hfz41_9, hfz41_10, hfz41_11, hfz41_12⟩ := froz13 BK132.out) | (go_at_call 64; (try simp only [← List.length_take, ← List.length_drop]); (with_reducible refine (change_place.calls kj1 a0_0 a0_1 a0_2 _ _ l0_3 a0_4 a0_5 a0_6 a0_7 a0_8 a0_9 a0_10 a0_11 a0_12 false _ ?side1 ?side2 A22.out).mono ?_); (case side1 => repeat (first | exact (Kd.C_below HR0_3.out HB.out) | (with_reducible refine Kd.C_alloc ?_ _) | (with_reducible refine Kd.C_drewN ?_ _) | (with_reducible refine Kd.C_drew ?_))); (case side2 => exact HC0_3.out); rintro e w42 ⟨rfl, hb⟩; have n0_ := Aside0.mk (blk_below (g := gb132) (o := .cells #[.int .i64 a0_0, .int .i64 a0_1, .int .i64 a0_2, .slice A0_3 l0_3.length c0_3, .int .i64 a0_4, .int .i64 a0_5, .int .i64 a0_6, .int .i64 a0_7, .int .i64 a0_8, .int .i64 a0_9, .int .i64 a0_10, .string a0_11, .string a0_12] 32 (0, 0)) (by (with_reducible repeat (first | refine blk_drewN ?_ _ | refine blk_drew ?_ | refine blk_alloc ?_ _)); exact BK132.out) hb); have n1_ := Aside0.mk (below_step (by repeat (first | (with_reducible first | exact HB.out | apply below_alloc | apply pw_below_drewN | apply below_drew1 | refine below_set ?_ GE132.out) | exact HB.out)) hb); clear BK132; clear HB; have BK132 := n0_; have HB := n1_; clear n0_ n1_; (try clear hb); (try clear hb2); (try clear hk); (try clear hi)))
          go_ret
          exact ⟨by first | rfl | (simp [errW_none, errW_some] <;> rfl) | (simp [*, errW_none, errW_some] <;> rfl), by repeat (first | (with_reducible first | exact HB.out | apply below_alloc | apply pw_below_drewN | apply below_drew1 | refine below_set ?_ GE132.out) | exact HB.out)⟩
        ·replace c21 := Bool.eq_false_iff.mpr c21
         subst c21
         have H1 : (some 2) = some r := by rw [if_neg (show ¬ (false = true) by decide)] at H; exact H
         clear H
         have H := H1
         clear H1
         obtain rfl := Option.some.inj H
         obtain ⟨hcz43_0, hcz43_1, hcz43_2, hcz43_3, hcz43_4, hcz43_5, hcz43_6, hcz43_7, hcz43_8, hcz43_9, hcz43_10, hcz43_11, hcz43_12⟩ := cells13 BK132.out
         obtain ⟨hfz43_0, hfz43_1, hfz43_2, hfz43_3, hfz43_4, hfz43_5, hfz43_6, hfz43_7, hfz43_8, hfz43_9, hfz43_10, hfz43_11, hfz43_12⟩ := froz13 BK132.out
         go_wp2_with (first | ((with_reducible refine gate_callee (f := 61) rfl ?_); refine goesL_ (some 16) rfl rfl Try.func61 (by kernel_rfl) rfl #[.agg #[.int .i64 a0_0, .int .i64 a0_1]] rfl (by (try simp only [List.map_toArray, List.map_cons, List.map_nil]); first | done | rfl | (simp only [List.length_drop, List.length_take]; rfl)) ?_; (with_reducible refine (ident_Right.calls a0_0 a0_1 true _ A8.out).mono ?_); rintro e w44 ⟨rfl, hb⟩; refine ⟨_, rfl, ?_⟩; have n0_ := Aside0.mk (blk_below (g := gb132) (o := .cells #[.int .i64 a0_0, .int .i64 a0_1, .int .i64 a0_2, .slice A0_3 l0_3.length c0_3, .int .i64 a0_4, .int .i64 a0_5, .int .i64 a0_6, .int .i64 a0_7, .int .i64 a0_8, .int .i64 a0_9, .int .i64 a0_10, .string a0_11, .string a0_12] 32 (0, 0)) (by (with_reducible repeat (first | refine blk_drewN ?_ _ | refine blk_drew ?_ | refine blk_alloc ?_ _)); exact BK132.out) hb); have n1_ := Aside0.mk (below_step (by repeat (first | (with_reducible first | exact HB.out | apply below_alloc | apply pw_below_drewN | apply below_drew1 | refine below_set ?_ GE132.out) | exact HB.out)) hb); clear BK132; clear HB; have BK132 := n0_; have HB := n1_; clear n0_ n1_; (try clear hb); (try clear hb2); (try clear hk); (try clear hi); obtain ⟨hcz45_0, hcz45_1, hcz45_2, hcz45_3, hcz45_4, hcz45_5, hcz45_6, hcz45_7, hcz45_8, hcz45_9, hcz45_10, hcz45_11, hcz45_12⟩ := cells13 BK132.out; obtain ⟨hfz45_0, hfz45_1, hfz45_2, hfz45_3, hfz45_4, hfz45_5, hfz45_6, hfz45_7, hfz45_8, hfz45_9, hfz45_10, hfz45_11, hfz45_12⟩ := froz13 BK132.out) | ((with_reducible refine gate_callee (f := 62) rfl ?_); refine goesL_ (some 31) rfl rfl Try.func62 (by kernel_rfl) rfl #[.agg #[.int .i64 a0_0, .int .i64 a0_1, .int .i64 a0_2, .slice A0_3 l0_3.length c0_3, .int .i64 a0_4, .int .i64 a0_5, .int .i64 a0_6, .int .i64 a0_7, .int .i64 a0_8, .int .i64 a0_9, .int .i64 a0_10, .string a0_11, .string a0_12]] rfl (by (try simp only [List.map_toArray, List.map_cons, List.map_nil]); first | done | rfl | (simp only [List.length_drop, List.length_take]; rfl)) ?_; (with_reducible refine (change_deps.calls kj1 a0_0 a0_1 a0_2 _ _ l0_3 a0_4 a0_5 a0_6 a0_7 a0_8 a0_9 a0_10 a0_11 a0_12 t134 _ ?side1 ?side2 A18.out).mono ?_); (case side1 => repeat (first | exact (Kd.C_below HR0_3.out HB.out) | (with_reducible refine Kd.C_alloc ?_ _) | (with_reducible refine Kd.C_drewN ?_ _) | (with_reducible refine Kd.C_drew ?_))); (case side2 => exact HC0_3.out); rintro e w46 ⟨rfl, hb⟩; refine ⟨_, rfl, ?_⟩; have n0_ := Aside0.mk (blk_below (g := gb132) (o := .cells #[.int .i64 a0_0, .int .i64 a0_1, .int .i64 a0_2, .slice A0_3 l0_3.length c0_3, .int .i64 a0_4, .int .i64 a0_5, .int .i64 a0_6, .int .i64 a0_7, .int .i64 a0_8, .int .i64 a0_9, .int .i64 a0_10, .string a0_11, .string a0_12] 32 (0, 0)) (by (with_reducible repeat (first | refine blk_drewN ?_ _ | refine blk_drew ?_ | refine blk_alloc ?_ _)); exact BK132.out) hb); have n1_ := Aside0.mk (below_step (by repeat (first | (with_reducible first | exact HB.out | apply below_alloc | apply pw_below_drewN | apply below_drew1 | refine below_set ?_ GE132.out) | exact HB.out)) hb); clear BK132; clear HB; have BK132 := n0_; have HB := n1_; clear n0_ n1_; (try clear hb); (try clear hb2); (try clear hk); (try clear hi); obtain ⟨hcz47_0, hcz47_1, hcz47_2, hcz47_3, hcz47_4, hcz47_5, hcz47_6, hcz47_7, hcz47_8, hcz47_9, hcz47_10, hcz47_11, hcz47_12⟩ := cells13 BK132.out; obtain ⟨hfz47_0, hfz47_1, hfz47_2, hfz47_3, hfz47_4, hfz47_5, hfz47_6, hfz47_7, hfz47_8, hfz47_9, hfz47_10, hfz47_11, hfz47_12⟩ := froz13 BK132.out) | ((with_reducible refine gate_callee (f := 63) rfl ?_); refine goesL_ (some 36) rfl rfl Try.func63 (by kernel_rfl) rfl #[.agg #[.int .i64 a0_0, .int .i64 a0_1, .int .i64 a0_2, .slice A0_3 l0_3.length c0_3, .int .i64 a0_4, .int .i64 a0_5, .int .i64 a0_6, .int .i64 a0_7, .int .i64 a0_8, .int .i64 a0_9, .int .i64 a0_10, .string a0_11, .string a0_12]] rfl (by (try simp only [List.map_toArray, List.map_cons, List.map_nil]); first | done | rfl | (simp only [List.length_drop, List.length_take]; rfl)) ?_; (with_reducible refine (change_node.calls a0_0 a0_1 a0_2 _ _ l0_3 a0_4 a0_5 a0_6 a0_7 a0_8 a0_9 a0_10 a0_11 a0_12 false _ ?side1 ?side2 A20.out).mono ?_); (case side1 => repeat (first | exact (Kd.C_below HR0_3.out HB.out) | (with_reducible refine Kd.C_alloc ?_ _) | (with_reducible refine Kd.C_drewN ?_ _) | (with_reducible refine Kd.C_drew ?_))); (case side2 => exact HC0_3.out); rintro e w48 ⟨rfl, hb⟩; refine ⟨_, rfl, ?_⟩; have n0_ := Aside0.mk (blk_below (g := gb132) (o := .cells #[.int .i64 a0_0, .int .i64 a0_1, .int .i64 a0_2, .slice A0_3 l0_3.length c0_3, .int .i64 a0_4, .int .i64 a0_5, .int .i64 a0_6, .int .i64 a0_7, .int .i64 a0_8, .int .i64 a0_9, .int .i64 a0_10, .string a0_11, .string a0_12] 32 (0, 0)) (by (with_reducible repeat (first | refine blk_drewN ?_ _ | refine blk_drew ?_ | refine blk_alloc ?_ _)); exact BK132.out) hb); have n1_ := Aside0.mk (below_step (by repeat (first | (with_reducible first | exact HB.out | apply below_alloc | apply pw_below_drewN | apply below_drew1 | refine below_set ?_ GE132.out) | exact HB.out)) hb); clear BK132; clear HB; have BK132 := n0_; have HB := n1_; clear n0_ n1_; (try clear hb); (try clear hb2); (try clear hk); (try clear hi)))
         go_ret
         exact ⟨by first | rfl | (simp [errW_none, errW_some] <;> rfl) | (simp [*, errW_none, errW_some] <;> rfl), by repeat (first | (with_reducible first | exact HB.out | apply below_alloc | apply pw_below_drewN | apply below_drew1 | refine below_set ?_ GE132.out) | exact HB.out)⟩
       ·rw [if_neg c19] at H
        have c19b0 : (t134 == 0) = false := beq_eq_false_iff_ne.mpr c19
        have c19b1 : (t134 != 0) = true := bne_iff_ne.mpr c19
        obtain rfl := Option.some.inj H
        obtain ⟨hcz49_0, hcz49_1, hcz49_2, hcz49_3, hcz49_4, hcz49_5, hcz49_6, hcz49_7, hcz49_8, hcz49_9, hcz49_10, hcz49_11, hcz49_12⟩ := cells13 BK132.out
        obtain ⟨hfz49_0, hfz49_1, hfz49_2, hfz49_3, hfz49_4, hfz49_5, hfz49_6, hfz49_7, hfz49_8, hfz49_9, hfz49_10, hfz49_11, hfz49_12⟩ := froz13 BK132.out
        go_wp2_with (first | ((with_reducible refine gate_callee (f := 61) rfl ?_); refine goesL_ (some 16) rfl rfl Try.func61 (by kernel_rfl) rfl #[.agg #[.int .i64 a0_0, .int .i64 a0_1]] rfl (by (try simp only [List.map_toArray, List.map_cons, List.map_nil]); first | done | rfl | (simp only [List.length_drop, List.length_take]; rfl)) ?_; (with_reducible refine (ident_Right.calls a0_0 a0_1 true _ A8.out).mono ?_); rintro e w50 ⟨rfl, hb⟩; refine ⟨_, rfl, ?_⟩; have n0_ := Aside0.mk (blk_below (g := gb132) (o := .cells #[.int .i64 a0_0, .int .i64 a0_1, .int .i64 a0_2, .slice A0_3 l0_3.length c0_3, .int .i64 a0_4, .int .i64 a0_5, .int .i64 a0_6, .int .i64 a0_7, .int .i64 a0_8, .int .i64 a0_9, .int .i64 a0_10, .string a0_11, .string a0_12] 32 (0, 0)) (by (with_reducible repeat (first | refine blk_drewN ?_ _ | refine blk_drew ?_ | refine blk_alloc ?_ _)); exact BK132.out) hb); have n1_ := Aside0.mk (below_step (by repeat (first | (with_reducible first | exact HB.out | apply below_alloc | apply pw_below_drewN | apply below_drew1 | refine below_set ?_ GE132.out) | exact HB.out)) hb); clear BK132; clear HB; have BK132 := n0_; have HB := n1_; clear n0_ n1_; (try clear hb); (try clear hb2); (try clear hk); (try clear hi); obtain ⟨hcz51_0, hcz51_1, hcz51_2, hcz51_3, hcz51_4, hcz51_5, hcz51_6, hcz51_7, hcz51_8, hcz51_9, hcz51_10, hcz51_11, hcz51_12⟩ := cells13 BK132.out; obtain ⟨hfz51_0, hfz51_1, hfz51_2, hfz51_3, hfz51_4, hfz51_5, hfz51_6, hfz51_7, hfz51_8, hfz51_9, hfz51_10, hfz51_11, hfz51_12⟩ := froz13 BK132.out) | ((with_reducible refine gate_callee (f := 62) rfl ?_); refine goesL_ (some 31) rfl rfl Try.func62 (by kernel_rfl) rfl #[.agg #[.int .i64 a0_0, .int .i64 a0_1, .int .i64 a0_2, .slice A0_3 l0_3.length c0_3, .int .i64 a0_4, .int .i64 a0_5, .int .i64 a0_6, .int .i64 a0_7, .int .i64 a0_8, .int .i64 a0_9, .int .i64 a0_10, .string a0_11, .string a0_12]] rfl (by (try simp only [List.map_toArray, List.map_cons, List.map_nil]); first | done | rfl | (simp only [List.length_drop, List.length_take]; rfl)) ?_; (with_reducible refine (change_deps.calls kj1 a0_0 a0_1 a0_2 _ _ l0_3 a0_4 a0_5 a0_6 a0_7 a0_8 a0_9 a0_10 a0_11 a0_12 t134 _ ?side1 ?side2 A18.out).mono ?_); (case side1 => repeat (first | exact (Kd.C_below HR0_3.out HB.out) | (with_reducible refine Kd.C_alloc ?_ _) | (with_reducible refine Kd.C_drewN ?_ _) | (with_reducible refine Kd.C_drew ?_))); (case side2 => exact HC0_3.out); rintro e w52 ⟨rfl, hb⟩; refine ⟨_, rfl, ?_⟩; have n0_ := Aside0.mk (blk_below (g := gb132) (o := .cells #[.int .i64 a0_0, .int .i64 a0_1, .int .i64 a0_2, .slice A0_3 l0_3.length c0_3, .int .i64 a0_4, .int .i64 a0_5, .int .i64 a0_6, .int .i64 a0_7, .int .i64 a0_8, .int .i64 a0_9, .int .i64 a0_10, .string a0_11, .string a0_12] 32 (0, 0)) (by (with_reducible repeat (first | refine blk_drewN ?_ _ | refine blk_drew ?_ | refine blk_alloc ?_ _)); exact BK132.out) hb); have n1_ := Aside0.mk (below_step (by repeat (first | (with_reducible first | exact HB.out | apply below_alloc | apply pw_below_drewN | apply below_drew1 | refine below_set ?_ GE132.out) | exact HB.out)) hb); clear BK132; clear HB; have BK132 := n0_; have HB := n1_; clear n0_ n1_; (try clear hb); (try clear hb2); (try clear hk); (try clear hi)))
        go_ret
        exact ⟨by first | rfl | (simp [errW_none, errW_some] <;> rfl) | (simp [*, errW_none, errW_some] <;> rfl), by repeat (first | (with_reducible first | exact HB.out | apply below_alloc | apply pw_below_drewN | apply below_drew1 | refine below_set ?_ GE132.out) | exact HB.out)⟩
    ·replace c9 := Bool.eq_false_iff.mpr c9
     subst c9
     have H1 : (some 2) = some r := by rw [if_neg (show ¬ (false = true) by decide)] at H; exact H
     clear H
     have H := H1
     clear H1
     obtain rfl := Option.some.inj H
     obtain ⟨hcz53_0, hcz53_1, hcz53_2, hcz53_3, hcz53_4, hcz53_5, hcz53_6, hcz53_7, hcz53_8, hcz53_9, hcz53_10, hcz53_11, hcz53_12⟩ := cells13 BK132.out
     obtain ⟨hfz53_0, hfz53_1, hfz53_2, hfz53_3, hfz53_4, hfz53_5, hfz53_6, hfz53_7, hfz53_8, hfz53_9, hfz53_10, hfz53_11, hfz53_12⟩ := froz13 BK132.out
     go_wp2_with (first | ((with_reducible refine gate_callee (f := 61) rfl ?_); refine goesL_ (some 16) rfl rfl Try.func61 (by kernel_rfl) rfl #[.agg #[.int .i64 a0_0, .int .i64 a0_1]] rfl (by (try simp only [List.map_toArray, List.map_cons, List.map_nil]); first | done | rfl | (simp only [List.length_drop, List.length_take]; rfl)) ?_; (with_reducible refine (ident_Right.calls a0_0 a0_1 false _ A8.out).mono ?_); rintro e w54 ⟨rfl, hb⟩; refine ⟨_, rfl, ?_⟩; have n0_ := Aside0.mk (blk_below (g := gb132) (o := .cells #[.int .i64 a0_0, .int .i64 a0_1, .int .i64 a0_2, .slice A0_3 l0_3.length c0_3, .int .i64 a0_4, .int .i64 a0_5, .int .i64 a0_6, .int .i64 a0_7, .int .i64 a0_8, .int .i64 a0_9, .int .i64 a0_10, .string a0_11, .string a0_12] 32 (0, 0)) (by (with_reducible repeat (first | refine blk_drewN ?_ _ | refine blk_drew ?_ | refine blk_alloc ?_ _)); exact BK132.out) hb); have n1_ := Aside0.mk (below_step (by repeat (first | (with_reducible first | exact HB.out | apply below_alloc | apply pw_below_drewN | apply below_drew1 | refine below_set ?_ GE132.out) | exact HB.out)) hb); clear BK132; clear HB; have BK132 := n0_; have HB := n1_; clear n0_ n1_; (try clear hb); (try clear hb2); (try clear hk); (try clear hi)))
     go_ret
     exact ⟨by first | rfl | (simp [errW_none, errW_some] <;> rfl) | (simp [*, errW_none, errW_some] <;> rfl), by repeat (first | (with_reducible first | exact HB.out | apply below_alloc | apply pw_below_drewN | apply below_drew1 | refine below_set ?_ GE132.out) | exact HB.out)⟩
end Go.Proofs.Ytnopjjilpgekfaa.PCa
namespace Go.Proofs.Ytnopjjilpgekfaa.PCa
open Go.RowKit Go.Proofs.YtnopjjilpgekfaaW.PrintWords Go.Proofs.YtnopjjilpgekfaaW.PrintLast Go.Proofs.YtnopjjilpgekfaaW.PrintMore
set_option linter.unusedVariables false
set_option linter.unusedSimpArgs false
theorem trimC_len (d : List Int) : (trimC d).length = trimN d d.length := by
 have := trimN_le d d.length
 unfold trimC
 rw [List.length_take]
 omega
theorem trim_all (d : List Int) (n : Nat) (h : d.length = n + 1) : (trimC d).length = d.length ↔ rd d (n : Int) ≠ 0 := by
 rw [trimC_len, h, trimN]
 by_cases h0 : rd d (n : Int) = 0
 ·rw [if_pos h0]
  have := trimN_le d n
  exact ⟨fun e => by omega, fun e => absurd h0 e⟩
 ·rw [if_neg h0]
  exact ⟨fun _ => h0, fun _ => rfl⟩
def depsC (a1 a2 : Int) (d : List Int) : Int := if chkC d = 0 then (if (trimC d).length = d.length ∧ atC d a1 = a2 - 1 then 0 else 2) else chkC d
def tailC (a4 : Int) (t : ByteArray) : Int := if (t.size : Int) > 256 then 3 else (if a4 = 3 ∨ a4 = 5 then 0 else (if t.toList = ([] : List UInt8) then 0 else 2))
def wordsC (a4 : Int) (s t : ByteArray) : Int := if a4 = 1 ∨ a4 = 3 ∨ a4 = 4 then (if nameC s = true then tailC a4 t else 8) else (if s.toList = ([] : List UInt8) then tailC a4 t else 8)
section
variable (k : Nat) (a0 a1 a2 : Int) (d : List Int) (a4 a5 a6 a7 a8 a9 a10 : Int) (s t : ByteArray)
theorem change_deps_is (hk : 70 < k) (h1 : 1 ≤ a2) (h2 : a2 ≤ 1099511627776) : change_deps.f k a0 a1 a2 d a4 a5 a6 a7 a8 a9 a10 s t = some (depsC a1 a2 d) := by
 unfold change_deps.f depsC
 have hw : wrap64 (a2 - 1) = a2 - 1 := by rw [← i64_w, IntKind.wrap_i64]; omega
 rw [clock_Check_is d k (by omega), Option.bind_some, clock_At_is, hw, Option.bind_some]
 by_cases hc : chkC d = 0
 ·rw [if_pos hc, if_pos hc]
  rcases hn : d.length with _ | n
  ·have e : trimN d 0 = 0 := rfl
   rw [if_neg (by omega), trimC_len, hn, e]
   by_cases h : atC d a1 = a2 - 1
   ·rw [if_pos h, if_pos ⟨rfl, h⟩]
   ·rw [if_neg h, if_neg (fun q => h q.2)]
  ·have hl : d.length ≤ 64 := by
    unfold chkC at hc
    split at hc
    ·cases hc
    ·omega
   have ha := trim_all d n hn
   rw [← hn, hn, if_pos (by omega), w1' (by omega), if_pos (by omega), if_pos (by omega)]
   by_cases h0 : rd d (n : Int) = 0
   ·rw [if_pos h0, if_neg (fun q => (ha.1 (by rw [q.1, hn])) h0)]
   ·rw [if_neg h0]
    have hq := ha.2 h0
    rw [hn] at hq
    by_cases h : atC d a1 = a2 - 1
    ·rw [if_pos h, if_pos ⟨hq, h⟩]
    ·rw [if_neg h, if_neg (fun q => h q.2)]
 ·rw [if_neg hc, if_neg hc]
theorem change_words_is (hs : s.size < 4611686018427387904) (hk : s.size + 1 < k) : change_words.f k a0 a1 a2 d a4 a5 a6 a7 a8 a9 a10 s t = some (wordsC a4 s t) := by
 have ht : ∀ v : Bool, (v = true ↔ (a4 = 3 ∨ a4 = 5)) → change_words.tail v t = some (tailC a4 t) := by
  intro v hv
  unfold change_words.tail tailC
  by_cases h : (t.size : Int) > 256
  ·rw [if_pos h, if_pos h]
  ·rw [if_neg h, if_neg h]
   by_cases h3 : a4 = 3 ∨ a4 = 5
   ·rw [if_pos h3, if_pos (hv.2 h3)]
   ·rw [if_neg h3, if_neg (fun q => h3 (hv.1 q))]
    split <;> rfl
 unfold change_words.f wordsC
 by_cases h : a4 = 1 ∨ a4 = 3 ∨ a4 = 4
 ·rw [if_pos h, if_pos h, change_Name_is s hs k hk, Option.bind_some, ht _ (by rw [decide_eq_true_eq]; omega)]
  split <;> rfl
 ·rw [if_neg h, if_neg h, ht _ (by rw [decide_eq_true_eq]; omega)]
  split <;> rfl
end
end Go.Proofs.Ytnopjjilpgekfaa.PCa
namespace Go.Proofs.Ytnopjjilpgekfaa.PCa
open Go.RowKit Go.Proofs.YtnopjjilpgekfaaW.PrintWords Go.Proofs.YtnopjjilpgekfaaW.PrintLast Go.Proofs.YtnopjjilpgekfaaW.PrintMore
attribute [local go_sem] max2_int min2_int max_two min_two max_three min_three max_four min_four   -- for this text's walks alone
set_option linter.unusedVariables false
set_option linter.unusedSimpArgs false
mutual
def topiaryref05_Check.j0 : Nat → Bool → Int → Int → Int → List Int → Int → Int → Int → Int → Int → Int → Int → ByteArray → ByteArray → Option (Int)
 | 0, _, _, _, _, _, _, _, _, _, _, _, _, _, _ => none
 | k + 1, x11, x150000, x150001, x150002, x150003, x150004, x150005, x150006, x150007, x150008, x150009, x150010, x150011, x150012 => if x11 = true then (some 1) else ((topiaryref01_Right.f x150000 x150001).bind fun t150 => (if t150 = true then (if x150002 < 1 then (topiaryref05_Check.j1 k true x150000 x150001 x150002 x150003 x150004 x150005 x150006 x150007 x150008 x150009 x150010 x150011 x150012) else (topiaryref05_Check.j1 k (decide (x150002 > x150000)) x150000 x150001 x150002 x150003 x150004 x150005 x150006 x150007 x150008 x150009 x150010 x150011 x150012)) else (some 2)))
def topiaryref05_Check.j1 : Nat → Bool → Int → Int → Int → List Int → Int → Int → Int → Int → Int → Int → Int → ByteArray → ByteArray → Option (Int)
 | 0, _, _, _, _, _, _, _, _, _, _, _, _, _, _ => none
 | k + 1, x26, x150000, x150001, x150002, x150003, x150004, x150005, x150006, x150007, x150008, x150009, x150010, x150011, x150012 => if x26 = true then (some 1) else ((topiaryref02_Check.f k x150003).bind fun t151 => (if t151 = 0 then ((topiaryref02_Trim.f k x150003).bind fun t153 => (if (t153.length : Int) = (x150003.length : Int) then ((topiaryref02_At.f x150003 x150001).bind fun t156 => (if t156 = (wrap64 (x150002 - 1)) then ((topiaryref05_placed.f k x150000 x150001 x150002 x150003 x150004 x150005 x150006 x150007 x150008 x150009 x150010 x150011 x150012).bind fun t157 => (topiaryref05_Check.j2 k (!t157) x150000 x150001 x150002 x150003 x150004 x150005 x150006 x150007 x150008 x150009 x150010 x150011 x150012)) else (topiaryref05_Check.j2 k true x150000 x150001 x150002 x150003 x150004 x150005 x150006 x150007 x150008 x150009 x150010 x150011 x150012))) else (topiaryref05_Check.j2 k true x150000 x150001 x150002 x150003 x150004 x150005 x150006 x150007 x150008 x150009 x150010 x150011 x150012))) else ((topiaryref02_Check.f k x150003).bind fun t152 => (some t152))))
def topiaryref05_Check.j2 : Nat → Bool → Int → Int → Int → List Int → Int → Int → Int → Int → Int → Int → Int → ByteArray → ByteArray → Option (Int)
 | 0, _, _, _, _, _, _, _, _, _, _, _, _, _, _ => none
 | k + 1, x58, x150000, x150001, x150002, x150003, x150004, x150005, x150006, x150007, x150008, x150009, x150010, x150011, x150012 => if x58 = true then (some 2) else (if x150004 = 1 then (topiaryref05_Check.j3 k true x150000 x150001 x150002 x150003 x150004 x150005 x150006 x150007 x150008 x150009 x150010 x150011 x150012) else (if x150004 = 3 then (topiaryref05_Check.j3 k true x150000 x150001 x150002 x150003 x150004 x150005 x150006 x150007 x150008 x150009 x150010 x150011 x150012) else (topiaryref05_Check.j3 k (x150004 == 4) x150000 x150001 x150002 x150003 x150004 x150005 x150006 x150007 x150008 x150009 x150010 x150011 x150012)))
def topiaryref05_Check.j3 : Nat → Bool → Int → Int → Int → List Int → Int → Int → Int → Int → Int → Int → Int → ByteArray → ByteArray → Option (Int)
 | 0, _, _, _, _, _, _, _, _, _, _, _, _, _, _ => none
 | k + 1, x3, x150000, x150001, x150002, x150003, x150004, x150005, x150006, x150007, x150008, x150009, x150010, x150011, x150012 => if x3 = true then ((topiaryref05_Name.f k x150011).bind fun t158 => (if t158 = true then (topiaryref05_Check.j4 k false x150000 x150001 x150002 x150003 x150004 x150005 x150006 x150007 x150008 x150009 x150010 x150011 x150012) else (topiaryref05_Check.j4 k true x150000 x150001 x150002 x150003 x150004 x150005 x150006 x150007 x150008 x150009 x150010 x150011 x150012))) else (topiaryref05_Check.j4 k (x150011.toList != ([] : List UInt8)) x150000 x150001 x150002 x150003 x150004 x150005 x150006 x150007 x150008 x150009 x150010 x150011 x150012)
def topiaryref05_Check.j4 : Nat → Bool → Int → Int → Int → List Int → Int → Int → Int → Int → Int → Int → Int → ByteArray → ByteArray → Option (Int)
 | 0, _, _, _, _, _, _, _, _, _, _, _, _, _, _ => none
 | k + 1, x87, x150000, x150001, x150002, x150003, x150004, x150005, x150006, x150007, x150008, x150009, x150010, x150011, x150012 => if x87 = true then (some 8) else (if (x150012.size : Int) > 256 then (some 3) else (if x150004 = 3 then (some 0) else (if x150004 = 5 then (some 0) else (if x150012.toList = ([] : List UInt8) then (some 0) else (some 2)))))
end
def topiaryref05_Check.f (k : Nat) (a0_0 : Int) (a0_1 : Int) (a0_2 : Int) (l0_3 : List Int) (a0_4 : Int) (a0_5 : Int) (a0_6 : Int) (a0_7 : Int) (a0_8 : Int) (a0_9 : Int) (a0_10 : Int) (a0_11 : ByteArray) (a0_12 : ByteArray) : Option (Int) := if a0_4 < 1 then (topiaryref05_Check.j0 k true a0_0 a0_1 a0_2 l0_3 a0_4 a0_5 a0_6 a0_7 a0_8 a0_9 a0_10 a0_11 a0_12) else (topiaryref05_Check.j0 k (decide (a0_4 > 5)) a0_0 a0_1 a0_2 l0_3 a0_4 a0_5 a0_6 a0_7 a0_8 a0_9 a0_10 a0_11 a0_12)
theorem topiaryref05_Check.mono_l : ∀ k, (∀ y0 y1 y2 y3 y4 y5 y6 y7 y8 y9 y10 y11 y12 y13, LeO (topiaryref05_Check.j0 k y0 y1 y2 y3 y4 y5 y6 y7 y8 y9 y10 y11 y12 y13) (topiaryref05_Check.j0 (k + 1) y0 y1 y2 y3 y4 y5 y6 y7 y8 y9 y10 y11 y12 y13)) ∧ (∀ y0 y1 y2 y3 y4 y5 y6 y7 y8 y9 y10 y11 y12 y13, LeO (topiaryref05_Check.j1 k y0 y1 y2 y3 y4 y5 y6 y7 y8 y9 y10 y11 y12 y13) (topiaryref05_Check.j1 (k + 1) y0 y1 y2 y3 y4 y5 y6 y7 y8 y9 y10 y11 y12 y13)) ∧ (∀ y0 y1 y2 y3 y4 y5 y6 y7 y8 y9 y10 y11 y12 y13, LeO (topiaryref05_Check.j2 k y0 y1 y2 y3 y4 y5 y6 y7 y8 y9 y10 y11 y12 y13) (topiaryref05_Check.j2 (k + 1) y0 y1 y2 y3 y4 y5 y6 y7 y8 y9 y10 y11 y12 y13)) ∧ (∀ y0 y1 y2 y3 y4 y5 y6 y7 y8 y9 y10 y11 y12 y13, LeO (topiaryref05_Check.j3 k y0 y1 y2 y3 y4 y5 y6 y7 y8 y9 y10 y11 y12 y13) (topiaryref05_Check.j3 (k + 1) y0 y1 y2 y3 y4 y5 y6 y7 y8 y9 y10 y11 y12 y13)) ∧ (∀ y0 y1 y2 y3 y4 y5 y6 y7 y8 y9 y10 y11 y12 y13, LeO (topiaryref05_Check.j4 k y0 y1 y2 y3 y4 y5 y6 y7 y8 y9 y10 y11 y12 y13) (topiaryref05_Check.j4 (k + 1) y0 y1 y2 y3 y4 y5 y6 y7 y8 y9 y10 y11 y12 y13))
 | 0 => ⟨fun _ _ _ _ _ _ _ _ _ _ _ _ _ _ r h => by simp [topiaryref05_Check.j0] at h, fun _ _ _ _ _ _ _ _ _ _ _ _ _ _ r h => by simp [topiaryref05_Check.j1] at h, fun _ _ _ _ _ _ _ _ _ _ _ _ _ _ r h => by simp [topiaryref05_Check.j2] at h, fun _ _ _ _ _ _ _ _ _ _ _ _ _ _ r h => by simp [topiaryref05_Check.j3] at h, fun _ _ _ _ _ _ _ _ _ _ _ _ _ _ r h => by simp [topiaryref05_Check.j4] at h⟩
 | k + 1 => by
  obtain ⟨ih0, ih1, ih2, ih3, ih4⟩ := topiaryref05_Check.mono_l k
  refine ⟨?_, ?_, ?_, ?_, ?_⟩
  ·intro y0 y1 y2 y3 y4 y5 y6 y7 y8 y9 y10 y11 y12 y13
   unfold topiaryref05_Check.j0
   repeat' first
   | (with_reducible exact ih0 _ _ _ _ _ _ _ _ _ _ _ _ _ _)
   | (with_reducible exact ih1 _ _ _ _ _ _ _ _ _ _ _ _ _ _)
   | (with_reducible exact ih2 _ _ _ _ _ _ _ _ _ _ _ _ _ _)
   | (with_reducible exact ih3 _ _ _ _ _ _ _ _ _ _ _ _ _ _)
   | (with_reducible exact ih4 _ _ _ _ _ _ _ _ _ _ _ _ _ _)
   | (with_reducible exact topiaryref02_Check.mono _ _)
   | (with_reducible exact topiaryref02_Trim.mono _ _)
   | (with_reducible exact topiaryref05_Name.mono _ _)
   | (with_reducible exact topiaryref05_placed.mono _ _ _ _ _ _ _ _ _ _ _ _ _ _)
   | (with_reducible exact LeO.refl _)
   | (with_reducible exact LeO.none _)
   | (with_reducible refine LeO.ite ?_ ?_)
   | (with_reducible refine LeO.bind ?_ (fun _ => ?_))
   | exact ih0 _ _ _ _ _ _ _ _ _ _ _ _ _ _
   | exact ih1 _ _ _ _ _ _ _ _ _ _ _ _ _ _
   | exact ih2 _ _ _ _ _ _ _ _ _ _ _ _ _ _
   | exact ih3 _ _ _ _ _ _ _ _ _ _ _ _ _ _
   | exact ih4 _ _ _ _ _ _ _ _ _ _ _ _ _ _
   | exact topiaryref02_Check.mono _ _
   | exact topiaryref02_Trim.mono _ _
   | exact topiaryref05_Name.mono _ _
   | exact topiaryref05_placed.mono _ _ _ _ _ _ _ _ _ _ _ _ _ _
   | exact LeO.none _
   | refine LeO.ite ?_ ?_
   | refine LeO.bind ?_ (fun _ => ?_)
  ·intro y0 y1 y2 y3 y4 y5 y6 y7 y8 y9 y10 y11 y12 y13
   unfold topiaryref05_Check.j1
   repeat' first
   | (with_reducible exact ih0 _ _ _ _ _ _ _ _ _ _ _ _ _ _)
   | (with_reducible exact ih1 _ _ _ _ _ _ _ _ _ _ _ _ _ _)
   | (with_reducible exact ih2 _ _ _ _ _ _ _ _ _ _ _ _ _ _)
   | (with_reducible exact ih3 _ _ _ _ _ _ _ _ _ _ _ _ _ _)
   | (with_reducible exact ih4 _ _ _ _ _ _ _ _ _ _ _ _ _ _)
   | (with_reducible exact topiaryref02_Check.mono _ _)
   | (with_reducible exact topiaryref02_Trim.mono _ _)
   | (with_reducible exact topiaryref05_Name.mono _ _)
   | (with_reducible exact topiaryref05_placed.mono _ _ _ _ _ _ _ _ _ _ _ _ _ _)
   | (with_reducible exact LeO.refl _)
   | (with_reducible exact LeO.none _)
   | (with_reducible refine LeO.ite ?_ ?_)
   | (with_reducible refine LeO.bind ?_ (fun _ => ?_))
   | exact ih0 _ _ _ _ _ _ _ _ _ _ _ _ _ _
   | exact ih1 _ _ _ _ _ _ _ _ _ _ _ _ _ _
   | exact ih2 _ _ _ _ _ _ _ _ _ _ _ _ _ _
   | exact ih3 _ _ _ _ _ _ _ _ _ _ _ _ _ _
   | exact ih4 _ _ _ _ _ _ _ _ _ _ _ _ _ _
   | exact topiaryref02_Check.mono _ _
   | exact topiaryref02_Trim.mono _ _
   | exact topiaryref05_Name.mono _ _
   | exact topiaryref05_placed.mono _ _ _ _ _ _ _ _ _ _ _ _ _ _
   | exact LeO.none _
   | refine LeO.ite ?_ ?_
   | refine LeO.bind ?_ (fun _ => ?_)
  ·intro y0 y1 y2 y3 y4 y5 y6 y7 y8 y9 y10 y11 y12 y13
   unfold topiaryref05_Check.j2
   repeat' first
   | (with_reducible exact ih0 _ _ _ _ _ _ _ _ _ _ _ _ _ _)
   | (with_reducible exact ih1 _ _ _ _ _ _ _ _ _ _ _ _ _ _)
   | (with_reducible exact ih2 _ _ _ _ _ _ _ _ _ _ _ _ _ _)
   | (with_reducible exact ih3 _ _ _ _ _ _ _ _ _ _ _ _ _ _)
   | (with_reducible exact ih4 _ _ _ _ _ _ _ _ _ _ _ _ _ _)
   | (with_reducible exact topiaryref02_Check.mono _ _)
   | (with_reducible exact topiaryref02_Trim.mono _ _)
   | (with_reducible exact topiaryref05_Name.mono _ _)
   | (with_reducible exact topiaryref05_placed.mono _ _ _ _ _ _ _ _ _ _ _ _ _ _)
   | (with_reducible exact LeO.refl _)
   | (with_reducible exact LeO.none _)
   | (with_reducible refine LeO.ite ?_ ?_)
   | (with_reducible refine LeO.bind ?_ (fun _ => ?_))
   | exact ih0 _ _ _ _ _ _ _ _ _ _ _ _ _ _
   | exact ih1 _ _ _ _ _ _ _ _ _ _ _ _ _ _
   | exact ih2 _ _ _ _ _ _ _ _ _ _ _ _ _ _
   | exact ih3 _ _ _ _ _ _ _ _ _ _ _ _ _ _
   | exact ih4 _ _ _ _ _ _ _ _ _ _ _ _ _ _
   | exact topiaryref02_Check.mono _ _
   | exact topiaryref02_Trim.mono _ _
   | exact topiaryref05_Name.mono _ _
   | exact topiaryref05_placed.mono _ _ _ _ _ _ _ _ _ _ _ _ _ _
   | exact LeO.none _
   | refine LeO.ite ?_ ?_
   | refine LeO.bind ?_ (fun _ => ?_)
  ·intro y0 y1 y2 y3 y4 y5 y6 y7 y8 y9 y10 y11 y12 y13
   unfold topiaryref05_Check.j3
   repeat' first
   | (with_reducible exact ih0 _ _ _ _ _ _ _ _ _ _ _ _ _ _)
   | (with_reducible exact ih1 _ _ _ _ _ _ _ _ _ _ _ _ _ _)
   | (with_reducible exact ih2 _ _ _ _ _ _ _ _ _ _ _ _ _ _)
   | (with_reducible exact ih3 _ _ _ _ _ _ _ _ _ _ _ _ _ _)
   | (with_reducible exact ih4 _ _ _ _ _ _ _ _ _ _ _ _ _ _)
   | (with_reducible exact topiaryref02_Check.mono _ _)
   | (with_reducible exact topiaryref02_Trim.mono _ _)
   | (with_reducible exact topiaryref05_Name.mono _ _)
   | (with_reducible exact topiaryref05_placed.mono _ _ _ _ _ _ _ _ _ _ _ _ _ _)
   | (with_reducible exact LeO.refl _)
   | (with_reducible exact LeO.none _)
   | (with_reducible refine LeO.ite ?_ ?_)
   | (with_reducible refine LeO.bind ?_ (fun _ => ?_))
   | exact ih0 _ _ _ _ _ _ _ _ _ _ _ _ _ _
   | exact ih1 _ _ _ _ _ _ _ _ _ _ _ _ _ _
   | exact ih2 _ _ _ _ _ _ _ _ _ _ _ _ _ _
   | exact ih3 _ _ _ _ _ _ _ _ _ _ _ _ _ _
   | exact ih4 _ _ _ _ _ _ _ _ _ _ _ _ _ _
   | exact topiaryref02_Check.mono _ _
   | exact topiaryref02_Trim.mono _ _
   | exact topiaryref05_Name.mono _ _
   | exact topiaryref05_placed.mono _ _ _ _ _ _ _ _ _ _ _ _ _ _
   | exact LeO.none _
   | refine LeO.ite ?_ ?_
   | refine LeO.bind ?_ (fun _ => ?_)
  ·intro y0 y1 y2 y3 y4 y5 y6 y7 y8 y9 y10 y11 y12 y13
   unfold topiaryref05_Check.j4
   repeat' first
   | (with_reducible exact ih0 _ _ _ _ _ _ _ _ _ _ _ _ _ _)
   | (with_reducible exact ih1 _ _ _ _ _ _ _ _ _ _ _ _ _ _)
   | (with_reducible exact ih2 _ _ _ _ _ _ _ _ _ _ _ _ _ _)
   | (with_reducible exact ih3 _ _ _ _ _ _ _ _ _ _ _ _ _ _)
   | (with_reducible exact ih4 _ _ _ _ _ _ _ _ _ _ _ _ _ _)
   | (with_reducible exact topiaryref02_Check.mono _ _)
   | (with_reducible exact topiaryref02_Trim.mono _ _)
   | (with_reducible exact topiaryref05_Name.mono _ _)
   | (with_reducible exact topiaryref05_placed.mono _ _ _ _ _ _ _ _ _ _ _ _ _ _)
   | (with_reducible exact LeO.refl _)
   | (with_reducible exact LeO.none _)
   | (with_reducible refine LeO.ite ?_ ?_)
   | (with_reducible refine LeO.bind ?_ (fun _ => ?_))
   | exact ih0 _ _ _ _ _ _ _ _ _ _ _ _ _ _
   | exact ih1 _ _ _ _ _ _ _ _ _ _ _ _ _ _
   | exact ih2 _ _ _ _ _ _ _ _ _ _ _ _ _ _
   | exact ih3 _ _ _ _ _ _ _ _ _ _ _ _ _ _
   | exact ih4 _ _ _ _ _ _ _ _ _ _ _ _ _ _
   | exact topiaryref02_Check.mono _ _
   | exact topiaryref02_Trim.mono _ _
   | exact topiaryref05_Name.mono _ _
   | exact topiaryref05_placed.mono _ _ _ _ _ _ _ _ _ _ _ _ _ _
   | exact LeO.none _
   | refine LeO.ite ?_ ?_
   | refine LeO.bind ?_ (fun _ => ?_)
theorem topiaryref05_Check.mono : ∀ a0 a1 a2 a3 a4 a5 a6 a7 a8 a9 a10 a11 a12 k, LeO (topiaryref05_Check.f k a0 a1 a2 a3 a4 a5 a6 a7 a8 a9 a10 a11 a12) (topiaryref05_Check.f (k + 1) a0 a1 a2 a3 a4 a5 a6 a7 a8 a9 a10 a11 a12) := by
 intro a0 a1 a2 a3 a4 a5 a6 a7 a8 a9 a10 a11 a12 k
 obtain ⟨ih0, ih1, ih2, ih3, ih4⟩ := topiaryref05_Check.mono_l k
 unfold topiaryref05_Check.f
 repeat' first
   | (with_reducible exact ih0 _ _ _ _ _ _ _ _ _ _ _ _ _ _)
   | (with_reducible exact ih1 _ _ _ _ _ _ _ _ _ _ _ _ _ _)
   | (with_reducible exact ih2 _ _ _ _ _ _ _ _ _ _ _ _ _ _)
   | (with_reducible exact ih3 _ _ _ _ _ _ _ _ _ _ _ _ _ _)
   | (with_reducible exact ih4 _ _ _ _ _ _ _ _ _ _ _ _ _ _)
   | (with_reducible exact topiaryref02_Check.mono _ _)
   | (with_reducible exact topiaryref02_Trim.mono _ _)
   | (with_reducible exact topiaryref05_Name.mono _ _)
   | (with_reducible exact topiaryref05_placed.mono _ _ _ _ _ _ _ _ _ _ _ _ _ _)
   | (with_reducible exact LeO.refl _)
   | (with_reducible exact LeO.none _)
   | (with_reducible refine LeO.ite ?_ ?_)
   | (with_reducible refine LeO.bind ?_ (fun _ => ?_))
   | exact ih0 _ _ _ _ _ _ _ _ _ _ _ _ _ _
   | exact ih1 _ _ _ _ _ _ _ _ _ _ _ _ _ _
   | exact ih2 _ _ _ _ _ _ _ _ _ _ _ _ _ _
   | exact ih3 _ _ _ _ _ _ _ _ _ _ _ _ _ _
   | exact ih4 _ _ _ _ _ _ _ _ _ _ _ _ _ _
   | exact topiaryref02_Check.mono _ _
   | exact topiaryref02_Trim.mono _ _
   | exact topiaryref05_Name.mono _ _
   | exact topiaryref05_placed.mono _ _ _ _ _ _ _ _ _ _ _ _ _ _
   | exact LeO.none _
   | refine LeO.ite ?_ ?_
   | refine LeO.bind ?_ (fun _ => ?_)
end Go.Proofs.Ytnopjjilpgekfaa.PCa
namespace Go.Proofs.Ytnopjjilpgekfaa.PCa
open Go.RowKit Go.Proofs.YtnopjjilpgekfaaW.PrintWords Go.Proofs.YtnopjjilpgekfaaW.PrintLast Go.Proofs.YtnopjjilpgekfaaW.PrintMore
set_option linter.unusedVariables false
set_option linter.unusedSimpArgs false
section
variable (k : Nat) (a0 a1 a2 : Int) (d : List Int) (a4 a5 a6 a7 a8 a9 a10 : Int) (s t : ByteArray)
def checkC : Int := if a4 < 1 ∨ a4 > 5 then 1 else if rightC a0 a1 = true then (if a2 < 1 ∨ a2 > a0 then 1 else if depsC a1 a2 d = 0 then (if (nodeOkC a4 a5 a6 a0 a1 && placeOkC a4 a5 a6 a7 a8 a9 a10 a0 a1) = true then wordsC a4 s t else 2) else depsC a1 a2 d) else 2
theorem right_max {a b : Int} (h : rightC a b = true) : a ≤ 1099511627776 := by
 simp only [rightC, Bool.and_eq_true, decide_eq_true_eq] at h
 exact h.2.1
theorem change_Check_is (hs : s.size < 4611686018427387904) (h70 : 100 < k) (hk : s.size + 4 < k) : change_Check.f k a0 a1 a2 d a4 a5 a6 a7 a8 a9 a10 s t = some (checkC a0 a1 a2 d a4 a5 a6 a7 a8 a9 a10 s t) := by
 obtain ⟨k, rfl⟩ : ∃ m, k = m + 3 := ⟨k - 3, by omega⟩
 have hjt : change_Check.j0 (k + 3) true a0 a1 a2 d a4 a5 a6 a7 a8 a9 a10 s t = some 1 := by rw [change_Check.j0, if_pos rfl]
 unfold change_Check.f checkC
 by_cases c1 : a4 < 1
 ·rw [if_pos c1, if_pos (Or.inl c1), hjt]
 ·rw [if_neg c1]
  by_cases c2 : a4 > 5
  ·rw [if_pos (Or.inr c2), decide_eq_true c2, hjt]
  ·have c3 : ¬ (a4 < 1 ∨ a4 > 5) := by omega
   rw [if_neg c3, decide_eq_false c2, change_Check.j0, if_neg (by decide), ident_Right_is, Option.bind_some]
   by_cases c4 : rightC a0 a1 = true
   ·have hm := right_max c4
    rw [if_pos c4, if_pos c4]
    by_cases c5 : a2 < 1
    ·rw [if_pos c5, if_pos (Or.inl c5)]
    ·rw [if_neg c5]
     by_cases c6 : a2 > a0
     ·rw [if_pos c6, if_pos (Or.inr c6)]
     ·have c7 : ¬ (a2 < 1 ∨ a2 > a0) := by omega
      rw [if_neg c6, if_neg c7, change_deps_is _ _ _ _ _ _ _ _ _ _ _ _ _ _ (by omega) (by omega) (by omega), Option.bind_some]
      by_cases c8 : depsC a1 a2 d = 0
      ·rw [if_pos c8, if_pos c8, change_node_is, Option.bind_some, change_place_is, change_words_is _ _ _ _ _ _ _ _ _ _ _ _ _ _ hs (by omega)]
       cases nodeOkC a4 a5 a6 a0 a1 <;> cases placeOkC a4 a5 a6 a7 a8 a9 a10 a0 a1 <;> rfl
      ·rw [if_neg c8, if_neg c8]
   ·rw [if_neg c4, if_neg c4]
end
end Go.Proofs.Ytnopjjilpgekfaa.PCa
namespace Go.Proofs.Ytnopjjilpgekfaa.PCa
open Go.RowKit Go.Proofs.YtnopjjilpgekfaaW.PrintWords Go.Proofs.YtnopjjilpgekfaaW.PrintLast Go.Proofs.YtnopjjilpgekfaaW.PrintMore
attribute [local go_sem] max2_int min2_int max_two min_two max_three min_three max_four min_four   -- for this text's walks alone
set_option linter.unusedVariables false
set_option linter.unusedSimpArgs false
mutual
def topiaryref02_Tick.j0 : Nat → List Int → Int → Bool → Option (List Int × Int)
 | 0, _, _, _ => none
 | k + 1, x0, x1, x19 => if x19 = true then (some (([] : List Int), 1)) else ((topiaryref02_At.f x0 x1).bind fun t449 => (if t449 = 1099511627776 then (some (([] : List Int), 6)) else (topiaryref02_Tick.l0 k x0 x1 (([] : List Int)) 0)))
def topiaryref02_Tick.l0 : Nat → List Int → Int → List Int → Int → Option (List Int × Int)
 | 0, _, _, _, _ => none
 | k + 1, x0, x1, x6, x7 => if x7 < 64 then ((topiaryref02_At.f x0 x7).bind fun t453 => (if x7 = x1 then (if x6.length < 17592186044416 then (topiaryref02_Tick.l0 k x0 x1 (x6 ++ [wrap64 (t453 + 1)]) (wrap64 (x7 + 1))) else (none)) else (if x6.length < 17592186044416 then (topiaryref02_Tick.l0 k x0 x1 (x6 ++ [t453]) (wrap64 (x7 + 1))) else (none)))) else ((topiaryref02_Trim.f k x6).bind fun t460 => (some (t460, 0)))
end
def topiaryref02_Tick.f (k : Nat) (l0 : List Int) (a1 : Int) : Option (List Int × Int) := (topiaryref02_Check.f k l0).bind fun t447 => (if t447 = 0 then (if a1 < 0 then (topiaryref02_Tick.j0 k l0 a1 true) else (topiaryref02_Tick.j0 k l0 a1 (decide (a1 ≥ 64)))) else ((topiaryref02_Check.f k l0).bind fun t448 => (some (([] : List Int), t448))))
theorem topiaryref02_Tick.mono_l : ∀ k, (∀ y0 y1 y2, LeO (topiaryref02_Tick.j0 k y0 y1 y2) (topiaryref02_Tick.j0 (k + 1) y0 y1 y2)) ∧ (∀ y0 y1 y2 y3, LeO (topiaryref02_Tick.l0 k y0 y1 y2 y3) (topiaryref02_Tick.l0 (k + 1) y0 y1 y2 y3))
 | 0 => ⟨fun _ _ _ r h => by simp [topiaryref02_Tick.j0] at h, fun _ _ _ _ r h => by simp [topiaryref02_Tick.l0] at h⟩
 | k + 1 => by
  obtain ⟨ih0, ih1⟩ := topiaryref02_Tick.mono_l k
  refine ⟨?_, ?_⟩
  ·intro y0 y1 y2
   unfold topiaryref02_Tick.j0
   repeat' first
   | (with_reducible exact ih0 _ _ _)
   | (with_reducible exact ih1 _ _ _ _)
   | (with_reducible exact topiaryref02_Check.mono _ _)
   | (with_reducible exact topiaryref02_Trim.mono _ _)
   | (with_reducible exact LeO.refl _)
   | (with_reducible exact LeO.none _)
   | (with_reducible refine LeO.ite ?_ ?_)
   | (with_reducible refine LeO.bind ?_ (fun _ => ?_))
   | exact ih0 _ _ _
   | exact ih1 _ _ _ _
   | exact topiaryref02_Check.mono _ _
   | exact topiaryref02_Trim.mono _ _
   | exact LeO.none _
   | refine LeO.ite ?_ ?_
   | refine LeO.bind ?_ (fun _ => ?_)
  ·intro y0 y1 y2 y3
   unfold topiaryref02_Tick.l0
   repeat' first
   | (with_reducible exact ih0 _ _ _)
   | (with_reducible exact ih1 _ _ _ _)
   | (with_reducible exact topiaryref02_Check.mono _ _)
   | (with_reducible exact topiaryref02_Trim.mono _ _)
   | (with_reducible exact LeO.refl _)
   | (with_reducible exact LeO.none _)
   | (with_reducible refine LeO.ite ?_ ?_)
   | (with_reducible refine LeO.bind ?_ (fun _ => ?_))
   | exact ih0 _ _ _
   | exact ih1 _ _ _ _
   | exact topiaryref02_Check.mono _ _
   | exact topiaryref02_Trim.mono _ _
   | exact LeO.none _
   | refine LeO.ite ?_ ?_
   | refine LeO.bind ?_ (fun _ => ?_)
theorem topiaryref02_Tick.mono : ∀ a0 a1 k, LeO (topiaryref02_Tick.f k a0 a1) (topiaryref02_Tick.f (k + 1) a0 a1) := by
 intro a0 a1 k
 obtain ⟨ih0, ih1⟩ := topiaryref02_Tick.mono_l k
 unfold topiaryref02_Tick.f
 repeat' first
   | (with_reducible exact ih0 _ _ _)
   | (with_reducible exact ih1 _ _ _ _)
   | (with_reducible exact topiaryref02_Check.mono _ _)
   | (with_reducible exact topiaryref02_Trim.mono _ _)
   | (with_reducible exact LeO.refl _)
   | (with_reducible exact LeO.none _)
   | (with_reducible refine LeO.ite ?_ ?_)
   | (with_reducible refine LeO.bind ?_ (fun _ => ?_))
   | exact ih0 _ _ _
   | exact ih1 _ _ _ _
   | exact topiaryref02_Check.mono _ _
   | exact topiaryref02_Trim.mono _ _
   | exact LeO.none _
   | refine LeO.ite ?_ ?_
   | refine LeO.bind ?_ (fun _ => ?_)
end Go.Proofs.Ytnopjjilpgekfaa.PCa
namespace Go.Proofs.Ytnopjjilpgekfaa.PCa
open Go.RowKit Go.Proofs.YtnopjjilpgekfaaW.PrintWords Go.Proofs.YtnopjjilpgekfaaW.PrintLast Go.Proofs.YtnopjjilpgekfaaW.PrintMore
set_option linter.unusedVariables false
set_option linter.unusedSimpArgs false
def clock_Tick.row (l : List Int) (r : Int) : List Int := l ++ List.replicate (max (l.length : Int) (r + 1) - l.length).toNat 0
def clock_Tick.bump (l : List Int) (r : Int) : List Int := (clock_Tick.row l r).set r.toNat (rd (clock_Tick.row l r) r + 1)
def clock_Tick.f (k : Nat) (l0 : List Int) (a1 : Int) : Option (List Int × Int) := (clock_Check.f k l0).bind fun t => if t = 0 then (if a1 < 0 then some ([], 1) else (if a1 ≥ 64 then some ([], 1) else (clock_At.f l0 a1).bind fun u => (if u = 1099511627776 then some ([], 6) else (if l0.length ≤ 64 ∧ 0 ≤ rd (clock_Tick.row l0 a1) a1 ∧ rd (clock_Tick.row l0 a1) a1 < 1099511627776 then (clock_Trim.f k (clock_Tick.bump l0 a1)).bind fun v => some (v, 0) else none)))) else some ([], t)
theorem clock_Tick.mono : ∀ a0 a1 k, LeO (clock_Tick.f k a0 a1) (clock_Tick.f (k + 1) a0 a1) := by
 intro a0 a1 k
 unfold clock_Tick.f
 refine LeO.bind (clock_Check.mono _ _) (fun t => LeO.ite (LeO.ite (LeO.refl _) (LeO.ite (LeO.refl _) (LeO.bind (LeO.refl _) (fun u => LeO.ite (LeO.refl _) (LeO.ite (LeO.bind (clock_Trim.mono _ _) (fun _ => LeO.refl _)) (LeO.none _)))))) (LeO.refl _))
theorem clock_Tick.row_len {l : List Int} {r : Int} (h0 : 0 ≤ r) : ((clock_Tick.row l r).length : Int) = max (l.length : Int) (r + 1) := by
 unfold clock_Tick.row
 rw [List.length_append, List.length_replicate]
 omega
theorem clock_Tick.copied {l : List Int} {r : Int} {m : Nat} (hm : (m : Int) = max (l.length : Int) (r + 1)) : l.take (min l.length (List.replicate m (0 : Int)).length) ++ (List.replicate m (0 : Int)).drop (min l.length (List.replicate m (0 : Int)).length) = clock_Tick.row l r := by
 rw [List.length_replicate, Nat.min_eq_left (by omega), List.take_of_length_le (Nat.le_refl _), List.drop_replicate, clock_Tick.row, ← hm]
 congr 2
 omega
theorem clock_Tick.opened {w : World} {base : Nat} {v : Value} {l : List Int} {r : Int} {m : Nat} (h : (Kd.int .i64).R 3 w base (fun _ => True) v (clock_Tick.row l r)) (h0 : 0 ≤ r) (hm : (m : Int) = max (l.length : Int) (r + 1)) :
  ∃ g cap, v = .slice (some ⟨g, 0, none⟩) m cap ∧ base ≤ g ∧ m ≤ cap ∧ w.cell? ⟨g, r.toNat, none⟩ = some (.int .i64 (rd (clock_Tick.row l r) r)) ∧ w.frozen? ⟨g, r.toNat, none⟩ = false ∧
   (Kd.int .i64).R 3 (w.setCell ⟨g, r.toNat, none⟩ (.int .i64 (rd (clock_Tick.row l r) r + 1))) base (fun _ => True) (.slice (some ⟨g, 0, none⟩) m cap) (clock_Tick.bump l r) := by
 have hl : (clock_Tick.row l r).length = m := by have := clock_Tick.row_len (l := l) h0; omega
 obtain ⟨inner, ho⟩ := Kd.R_own h
 rcases ho.2 with ⟨_, hx0⟩ | ⟨g, cap, cur, hv, hb, hh, hnc, hcm, hcs, htake⟩
 ·omega
 rw [hl] at hv hnc
 subst hv
 have hr := Kd.R_reads' h
 obtain ⟨ad, hA, hx⟩ := Kd.at_int hr.2.2 r h0 (by omega)
 injection hA with hA
 subst hA
 rw [Addr.add_lit, Nat.zero_add] at hx
 have hs := Kd.R_seg h r h0 (by omega) (c := [.int .i64 (rd (clock_Tick.row l r) r)]) (seg := [.int .i64 (rd (clock_Tick.row l r) r + 1)]) (j := 0) (okp := fun _ => False) rfl
  (by
   intro j u hj
   rcases j with _ | j
   ·injection hj with hj
    subst hj
    rw [← hx]
    rw [show (Kd.int .i64).sz = 1 from rfl, Nat.mul_one, Nat.add_zero]
   ·simp at hj) (Nat.le_refl _) (x' := rd (clock_Tick.row l r) r + 1) rfl (fun _ h => h.elim)
 refine ⟨g, cap, rfl, hb, hnc, hx, blk_frozen hh _, ?_⟩
 have e : w.setCells g (r.toNat * (Kd.int .i64).sz + 0) [.int .i64 (rd (clock_Tick.row l r) r + 1)] = w.setCell ⟨g, r.toNat, none⟩ (.int .i64 (rd (clock_Tick.row l r) r + 1)) := by
  rw [show (Kd.int .i64).sz = 1 from rfl, Nat.mul_one, Nat.add_zero]
  rfl
 rw [e] at hs
 exact hs.1
set_option maxHeartbeats 8000000 in
set_option maxRecDepth 100000 in
theorem clock_Tick.calls (k : Nat) (A0 : Option Addr) (c0 : Nat) (l0 : List Int) (a1 : Int) (r1 : List Int) (r2 : Int) (w : World) (hr0 : Kd.C (Kd.int .i64) w A0 l0.length l0) (hc0 : l0.length ≤ c0) (h : clock_Tick.f k l0 a1 = some (r1, r2)) :
  Calls Try.prog 80 #[.slice A0 l0.length c0, .int .i64 a1] w fun e w' => ∃ v0_ : Value, e = .returned (.tuple #[v0_, .int .i64 r2]) ∧ Kd.R (Kd.int .i64) 3 w' w.heap.size (fun _ => True) v0_ r1 ∧ Below w.heap.size w w' := by
 have HR0 := Aside0.mk hr0
 have HC0 := Aside0.mk hc0
 clear hr0 hc0
 have HB := Aside0.mk (Below.refl w.heap.size w)
 unfold clock_Tick.f at h
 have H := Option.bind_eq_some_iff.mp h
 clear h
 obtain ⟨t, A1, H⟩ := H
 replace A1 := Aside0.mk A1

 by_cases c1 : t = 0
 ·rw [if_pos c1] at H
  subst c1
  by_cases c2 : a1 < 0
  ·rw [if_pos c2] at H
   have c2b := decide_eq_true c2
   simp only [Option.some.injEq, Prod.mk.injEq] at H
   obtain ⟨rfl, rfl⟩ := H
   clear c2
   go_enter Try.func80, Try.ntmps80
   go_wp2_with (first | (go_at_call 33; (with_reducible refine (clock_Check.calls k _ _ l0 _ _ ?side1 ?side2 A1.out).mono ?_); (case side1 => exact HR0.out); (case side2 => exact HC0.out); rintro e w' ⟨rfl, ⟨nd, rfl⟩⟩))
   go_ret2
   exact ⟨_, by first | rfl | (simp [errW_none, errW_some] <;> rfl), by first | exact Kd.R_nil _ _ _ _ _, (by repeat (first | (with_reducible first | exact HB.out | apply below_alloc | apply pw_below_drewN | apply below_drew1) | exact HB.out))⟩
  ·rw [if_neg c2] at H
   have c2b := decide_eq_false c2
   by_cases c3 : a1 ≥ 64
   ·rw [if_pos c3] at H
    have c3b := decide_eq_true c3
    simp only [Option.some.injEq, Prod.mk.injEq] at H
    obtain ⟨rfl, rfl⟩ := H
    clear c2 c3
    go_enter Try.func80, Try.ntmps80
    go_wp2_with (first | (go_at_call 33; (with_reducible refine (clock_Check.calls k _ _ l0 _ _ ?side1 ?side2 A1.out).mono ?_); (case side1 => exact HR0.out); (case side2 => exact HC0.out); rintro e w' ⟨rfl, ⟨nd, rfl⟩⟩))
    go_ret2
    exact ⟨_, by first | rfl | (simp [errW_none, errW_some] <;> rfl), by first | exact Kd.R_nil _ _ _ _ _, (by repeat (first | (with_reducible first | exact HB.out | apply below_alloc | apply pw_below_drewN | apply below_drew1) | exact HB.out))⟩
   ·rw [if_neg c3] at H
    have c3b := decide_eq_false c3
    replace H := Option.bind_eq_some_iff.mp H
    obtain ⟨u, A2, H⟩ := H
    replace A2 := Aside0.mk A2
    by_cases c4 : u = 1099511627776
    ·rw [if_pos c4] at H
     have c4b : (u == 1099511627776) = true := beq_iff_eq.mpr c4
     simp only [Option.some.injEq, Prod.mk.injEq] at H
     obtain ⟨rfl, rfl⟩ := H
     clear c2 c3 c4
     go_enter Try.func80, Try.ntmps80
     go_wp2_with (first | (go_at_call 33; (with_reducible refine (clock_Check.calls k _ _ l0 _ _ ?side1 ?side2 A1.out).mono ?_); (case side1 => exact HR0.out); (case side2 => exact HC0.out); rintro e w' ⟨rfl, ⟨nd, rfl⟩⟩) | (go_at_call 35; (with_reducible refine (clock_At.calls _ _ l0 a1 _ _ ?side1 ?side2 A2.out).mono ?_); (case side1 => repeat (first | exact HR0.out | (with_reducible refine Kd.C_alloc ?_ _) | (with_reducible refine Kd.C_drewN ?_ _) | (with_reducible refine Kd.C_drew ?_))); (case side2 => exact HC0.out); rintro e w' ⟨rfl, ⟨nd2, rfl⟩⟩))
     go_ret2
     exact ⟨_, by first | rfl | (simp [errW_none, errW_some] <;> rfl), by first | exact Kd.R_nil _ _ _ _ _, (by repeat (first | (with_reducible first | exact HB.out | apply below_alloc | apply pw_below_drewN | apply below_drew1) | exact HB.out))⟩
    ·rw [if_neg c4] at H
     have c4b : (u == 1099511627776) = false := beq_eq_false_iff_ne.mpr c4
     clear c4
     by_cases c5 : l0.length ≤ 64 ∧ 0 ≤ rd (clock_Tick.row l0 a1) a1 ∧ rd (clock_Tick.row l0 a1) a1 < 1099511627776
     ·rw [if_pos c5] at H
      replace H := Option.bind_eq_some_iff.mp H
      obtain ⟨v, A3, H⟩ := H
      replace A3 := Aside0.mk A3
      simp only [Option.some.injEq, Prod.mk.injEq] at H
      obtain ⟨rfl, rfl⟩ := H
      have hw1 : IntKind.i64.wrap (a1 + 1) = a1 + 1 := by rw [IntKind.wrap_i64]; omega
      obtain ⟨m, hm⟩ : ∃ m : Nat, (m : Int) = max (l0.length : Int) (a1 + 1) := ⟨(max (l0.length : Int) (a1 + 1)).toNat, by omega⟩
      have HM := Aside0.mk hm
      have C5 := Aside0.mk c5
      have C2 := Aside0.mk c2
      have C3 := Aside0.mk c3
      clear c5 c2 c3
      have hmax : (if (l0.length : Int) < a1 + 1 then a1 + 1 else (l0.length : Int)) = (m : Int) := by rw [hm]; split <;> omega
      clear hm
      go_enter Try.func80, Try.ntmps80
      go_wp2_with (first | (go_at_call 33; (with_reducible refine (clock_Check.calls k _ _ l0 _ _ ?side1 ?side2 A1.out).mono ?_); (case side1 => exact HR0.out); (case side2 => exact HC0.out); rintro e w' ⟨rfl, ⟨nd, rfl⟩⟩) | (go_at_call 35; (with_reducible refine (clock_At.calls _ _ l0 a1 _ _ ?side1 ?side2 A2.out).mono ?_); (case side1 => repeat (first | exact HR0.out | (with_reducible refine Kd.C_alloc ?_ _) | (with_reducible refine Kd.C_drewN ?_ _) | (with_reducible refine Kd.C_drew ?_))); (case side2 => exact HC0.out); rintro e w' ⟨rfl, ⟨nd2, rfl⟩⟩) | ((with_reducible refine gate_dst (N := 28) rfl ?_); refine Kd.R_make (Kd.int .i64) (w0 := w) w.heap.size 3 rfl (N := 28) rfl 23 _ _ rfl (m : Int) rfl rfl Try.underlying23 (.int .i64 0) 8 info3 rfl (by decide) (by decide) (0 : Int) (ok := fun _ => True) (okp := fun _ => True) ?hz (fun _ _ => trivial) trivial (Int.natCast_nonneg _) (by have := HM.out; have := C5.out; have := C3.out; omega) (by repeat (first | (with_reducible first | exact HB.out | apply below_alloc | apply pw_below_drewN | apply below_drew1) | exact HB.out)) (below_size (by repeat (first | (with_reducible first | exact HB.out | apply below_alloc | apply pw_below_drewN | apply below_drew1) | exact HB.out))) ?_; (case hz => exact rfl); intro vm wm hom hbm hg_ hnew_; clear hg_ hnew_; rw [Int.toNat_natCast] at hom; have HO := Aside0.mk hom; have n_ := Aside0.mk (Below.refl w.heap.size w); clear n_; clear HB; have HB := Aside0.mk hbm; clear hom hbm) | ((with_reducible refine gate_dst (N := 31) rfl ?_); go_loud (refine Kd.R_copy (α := Int) (enc := Value.int .i64) (h1 := fun _ => rfl) 0 (w0 := w) w.heap.size rfl (.tmp 29) (.tmp 30) 23 23 3 rfl Try.underlying23 (by kernel_rfl) vm (List.replicate m (0 : Int)) l0 A0 l0.length c0 (fun _ => True) rfl rfl HO.out ?hR HB.out (below_size HB.out) ?_; (case hR => exact Kd.C_below HR0.out HB.out); intro w3 ho hb hg; rw [clock_Tick.copied HM.out] at ho; clear HO HB; have HB := Aside0.mk hb; obtain ⟨g, cap, rfl, hge, hn, hx, hfz, hS⟩ := clock_Tick.opened ho (by have := C2.out; omega : 0 ≤ a1) HM.out; have HS := Aside0.mk hS; have HG := Aside0.mk hge; clear ho hb hg hS hge; have hi0 : (0 ≤ a1) = True := eq_true (by have := C2.out; omega); have hi1 : (a1 < (m : Int)) = True := eq_true (by have := HM.out; omega); have hw2 : IntKind.i64.wrap (rd (clock_Tick.row l0 a1) a1 + 1) = rd (clock_Tick.row l0 a1) a1 + 1 := (by rw [IntKind.wrap_i64]; have := C5.out; omega))) | (go_at_call 85; have hc_ := clock_Trim.calls k _ cap (clock_Tick.bump l0 a1) _ _ (Kd.R_reads' HS.out).2.2 (by have h_ := Kd.R_reads' HS.out; omega) A3.out; rw [← (Kd.R_reads' HS.out).1] at hc_; (with_reducible refine hc_.mono ?_); clear hc_; rintro e w' ⟨v0, rfl, ho, hb⟩; have HO := Aside0.mk ho; have HBT := Aside0.mk hb; clear ho hb))
      go_ret2
      exact ⟨_, by first | rfl | (simp [errW_none, errW_some] <;> rfl), Kd.R_lower HO.out (below_size (below_set HB.out HG.out)), below_step (below_set HB.out HG.out) HBT.out⟩
     ·rw [if_neg c5] at H
      cases H
 ·rw [if_neg c1] at H
  have c1b : (t == 0) = false := beq_eq_false_iff_ne.mpr c1
  have c1c : (t != 0) = true := bne_iff_ne.mpr c1
  simp only [Option.some.injEq, Prod.mk.injEq] at H
  obtain ⟨rfl, rfl⟩ := H
  clear c1
  go_enter Try.func80, Try.ntmps80
  go_wp2_with (first | (go_at_call 33; (with_reducible refine (clock_Check.calls k _ _ l0 _ _ ?side1 ?side2 A1.out).mono ?_); (case side1 => exact HR0.out); (case side2 => exact HC0.out); rintro e w' ⟨rfl, ⟨nd, rfl⟩⟩))
  go_ret2
  exact ⟨_, by first | rfl | (simp [errW_none, errW_some] <;> rfl), by first | exact Kd.R_nil _ _ _ _ _, (by repeat (first | (with_reducible first | exact HB.out | apply below_alloc | apply pw_below_drewN | apply below_drew1) | exact HB.out))⟩
end Go.Proofs.Ytnopjjilpgekfaa.PCa
namespace Go.Proofs.Ytnopjjilpgekfaa.PCa
open Go.RowKit Go.Proofs.YtnopjjilpgekfaaW.PrintWords Go.Proofs.YtnopjjilpgekfaaW.PrintLast Go.Proofs.YtnopjjilpgekfaaW.PrintMore
set_option linter.unusedVariables false
set_option linter.unusedSimpArgs false
def tickC (l : List Int) (r : Int) : List Int × Int := if chkC l = 0 then (if r < 0 ∨ 64 ≤ r then ([], 1) else (if atC l r = 1099511627776 then ([], 6) else (trimC (clock_Tick.bump l r), 0))) else ([], chkC l)
theorem rd_left {xs ys : List Int} {i : Nat} (h : i < xs.length) : rd (xs ++ ys) (i : Int) = rd xs (i : Int) := by
 unfold rd
 simp [List.getD_eq_getElem?_getD, List.getElem?_append_left h]
theorem rd_zero {xs : List Int} {z i : Nat} (h : xs.length ≤ i) : rd (xs ++ List.replicate z 0) (i : Int) = 0 := by
 unfold rd
 rw [List.getD_eq_getElem?_getD, Int.toNat_natCast, List.getElem?_append_right h, List.getElem?_replicate]
 split <;> rfl
theorem chk_len {l : List Int} (h : chkC l = 0) : l.length ≤ 64 := by
 unfold chkC at h
 split at h
 ·cases h
 ·omega
theorem chk_rd {l : List Int} (h : chkC l = 0) (r : Int) : 0 ≤ atC l r ∧ atC l r ≤ 1099511627776 := by
 have hl := chk_len h
 unfold atC
 split
 ·omega
 ·rename_i hr
  unfold chkC at h
  rw [if_neg (by omega)] at h
  have ha : l.any badN = false := by
   cases hb : l.any badN with
   | false => rfl
   | true => rw [hb] at h; cases h
  have hm : rd l r ∈ l := by
   unfold rd
   rw [List.getD_eq_getElem?_getD, List.getElem?_eq_getElem (by omega : r.toNat < l.length)]
   exact List.getElem_mem _
  have := List.any_eq_false.1 ha _ hm
  simp only [badN, Bool.or_eq_true, decide_eq_true_eq, not_or] at this
  omega
theorem row_rd {l : List Int} {r i : Int} (h0 : 0 ≤ i) : rd (clock_Tick.row l r) i = atC l i := by
 obtain ⟨j, rfl⟩ := Int.eq_ofNat_of_zero_le h0
 unfold clock_Tick.row atC
 by_cases h : j < l.length
 ·rw [rd_left h, if_neg (by omega)]
 ·rw [rd_zero (by omega), if_pos (by omega)]
theorem clock_Tick_is (l : List Int) (r : Int) (k : Nat) (hk : 300 < k) : clock_Tick.f k l r = some (tickC l r) := by
 unfold clock_Tick.f tickC
 rw [clock_Check_is l k (by omega), Option.bind_some]
 by_cases h : chkC l = 0
 ·rw [if_pos h, if_pos h]
  by_cases h1 : r < 0
  ·rw [if_pos h1, if_pos (Or.inl h1)]
  ·rw [if_neg h1]
   by_cases h2 : r ≥ 64
   ·rw [if_pos h2, if_pos (Or.inr h2)]
   ·have hr : ¬ (r < 0 ∨ 64 ≤ r) := by omega
    rw [if_neg h2, if_neg hr, clock_At_is, Option.bind_some]
    by_cases h3 : atC l r = 1099511627776
    ·rw [if_pos h3, if_pos h3]
    ·have hc := chk_rd h r
     have hl := chk_len h
     have hn := clock_Tick.row_len (l := l) (r := r) (by omega)
     have hb : (clock_Tick.bump l r).length = (clock_Tick.row l r).length := by unfold clock_Tick.bump; rw [List.length_set]
     rw [if_neg h3, if_neg h3, row_rd (by omega), if_pos ⟨hl, hc.1, by omega⟩, clock_Trim_is _ k (by omega) (by omega)]
     rfl
 ·rw [if_neg h, if_neg h]
end Go.Proofs.Ytnopjjilpgekfaa.PCa
namespace Go.Proofs.Ytnopjjilpgekfaa.PCa
open Go.RowKit Go.Proofs.YtnopjjilpgekfaaW.PrintWords Go.Proofs.YtnopjjilpgekfaaW.PrintLast Go.Proofs.YtnopjjilpgekfaaW.PrintMore
attribute [local go_sem] max2_int min2_int max_two min_two max_three min_three max_four min_four   -- for this text's walks alone
set_option linter.unusedVariables false
set_option linter.unusedSimpArgs false
def causal_ready.l0 : Nat → List Int → List Int → Int → Int → Option (Bool)
 | 0, _, _, _, _ => none
 | k + 1, x0, x17, x18, x19 => if x19 < x18 then (if 0 ≤ x19 then (if x19 < (x17.length : Int) then ((clock_At.f x0 x19).bind fun t363 => (if (rd x17 x19) > t363 then (some false) else (causal_ready.l0 k x0 x17 x18 (wrap64 (x19 + 1))))) else (none)) else (none)) else (some true)
def causal_ready.f (k : Nat) (l0 : List Int) (a1_0 : Int) (a1_1 : Int) (a1_2 : Int) (l1_3 : List Int) (a1_4 : Int) (a1_5 : Int) (a1_6 : Int) (a1_7 : Int) (a1_8 : Int) (a1_9 : Int) (a1_10 : Int) (a1_11 : ByteArray) (a1_12 : ByteArray) : Option (Bool) := (clock_At.f l0 a1_1).bind fun t361 => (if a1_2 = (wrap64 (t361 + 1)) then (causal_ready.l0 k l0 l1_3 (l1_3.length : Int) 0) else (some false))
theorem causal_ready.mono_l : ∀ k, (∀ y0 y1 y2 y3, LeO (causal_ready.l0 k y0 y1 y2 y3) (causal_ready.l0 (k + 1) y0 y1 y2 y3))
 | 0 => fun _ _ _ _ r h => by simp [causal_ready.l0] at h
 | k + 1 => by
  have ih0 := causal_ready.mono_l k
  ·intro y0 y1 y2 y3
   unfold causal_ready.l0
   repeat' first
   | (with_reducible exact ih0 _ _ _ _)
   | (with_reducible exact LeO.refl _)
   | (with_reducible exact LeO.none _)
   | (with_reducible refine LeO.ite ?_ ?_)
   | (with_reducible refine LeO.bind ?_ (fun _ => ?_))
   | exact ih0 _ _ _ _
   | exact LeO.none _
   | refine LeO.ite ?_ ?_
   | refine LeO.bind ?_ (fun _ => ?_)
theorem causal_ready.mono : ∀ a0 a1 a2 a3 a4 a5 a6 a7 a8 a9 a10 a11 a12 a13 k, LeO (causal_ready.f k a0 a1 a2 a3 a4 a5 a6 a7 a8 a9 a10 a11 a12 a13) (causal_ready.f (k + 1) a0 a1 a2 a3 a4 a5 a6 a7 a8 a9 a10 a11 a12 a13) := by
 intro a0 a1 a2 a3 a4 a5 a6 a7 a8 a9 a10 a11 a12 a13 k
 have ih0 := causal_ready.mono_l k
 unfold causal_ready.f
 repeat' first
   | (with_reducible exact ih0 _ _ _ _)
   | (with_reducible exact LeO.refl _)
   | (with_reducible exact LeO.none _)
   | (with_reducible refine LeO.ite ?_ ?_)
   | (with_reducible refine LeO.bind ?_ (fun _ => ?_))
   | exact ih0 _ _ _ _
   | exact LeO.none _
   | refine LeO.ite ?_ ?_
   | refine LeO.bind ?_ (fun _ => ?_)
set_option maxHeartbeats 8000000 in
set_option maxRecDepth 100000 in
theorem causal_ready.calls (k : Nat) (A0 : Option Addr) (c0 : Nat) (l0 : List Int) (a1_0 : Int) (a1_1 : Int) (a1_2 : Int) (A1_3 : Option Addr) (c1_3 : Nat) (l1_3 : List Int) (a1_4 : Int) (a1_5 : Int) (a1_6 : Int) (a1_7 : Int) (a1_8 : Int) (a1_9 : Int) (a1_10 : Int) (a1_11 : ByteArray) (a1_12 : ByteArray) (r : Bool) (w : World) (hr0 : Kd.C (Kd.int .i64) w A0 l0.length l0) (hc0 : l0.length ≤ c0) (hr1_3 : Kd.C (Kd.int .i64) w A1_3 l1_3.length l1_3) (hc1_3 : l1_3.length ≤ c1_3) (h : causal_ready.f k l0 a1_0 a1_1 a1_2 l1_3 a1_4 a1_5 a1_6 a1_7 a1_8 a1_9 a1_10 a1_11 a1_12 = some r) :
  Calls Try.prog 37 #[.slice A0 l0.length c0, .agg #[.int .i64 a1_0, .int .i64 a1_1, .int .i64 a1_2, .slice A1_3 l1_3.length c1_3, .int .i64 a1_4, .int .i64 a1_5, .int .i64 a1_6, .int .i64 a1_7, .int .i64 a1_8, .int .i64 a1_9, .int .i64 a1_10, .string a1_11, .string a1_12]] w fun e w' => e = .returned (.bool r) ∧ Below w.heap.size w w' := by
 have hu32 := Try.underlying32
 have HR0 := Aside0.mk hr0
 have HC0 := Aside0.mk hc0
 clear hr0 hc0
 have HR1_3 := Aside0.mk hr1_3
 have HC1_3 := Aside0.mk hc1_3
 clear hr1_3 hc1_3
 have HB := Aside0.mk (Below.refl w.heap.size w)
 have H : ((clock_At.f l0 a1_1).bind fun t361 => (if a1_2 = (wrap64 (t361 + 1)) then (causal_ready.l0 k l0 l1_3 (l1_3.length : Int) 0) else (some false))) = some r := h
 clear h
 replace H := Option.bind_eq_some_iff.mp H
 obtain ⟨t361, A30, H⟩ := H
 replace H : (if a1_2 = (wrap64 (t361 + 1)) then (causal_ready.l0 k l0 l1_3 (l1_3.length : Int) 0) else (some false)) = some r := H
 have A3 := Aside0.mk A30
 clear A30
 by_cases c4 : a1_2 = (wrap64 (t361 + 1))
 ·rw [if_pos c4] at H
  have c4b0 : (a1_2 == (wrap64 (t361 + 1))) = true := beq_iff_eq.mpr c4
  have c4b1 : (a1_2 != (wrap64 (t361 + 1))) = false := bne_eq_false_iff_eq.mpr c4
  clear c4
  have H' := Aside0.mk H
  clear H
  go_enter Try.func37, Try.ntmps37
  go_wp2_with (first | ((with_reducible refine gate_dst (N := 3) rfl ?_); refine box_event ?hg (N := 3) ?hd (cs := #[.int .i64 a1_0, .int .i64 a1_1, .int .i64 a1_2, .slice A1_3 l1_3.length c1_3, .int .i64 a1_4, .int .i64 a1_5, .int .i64 a1_6, .int .i64 a1_7, .int .i64 a1_8, .int .i64 a1_9, .int .i64 a1_10, .string a1_11, .string a1_12]) (t := 32) ?hr ?_; (case hd => rfl); (case hg => rfl); (case hr => first | (go_simp; done) | (go_simp; rfl)); intro gb360 hg w5 hbox hb; have n0_ := Aside0.mk (below_step (by repeat (first | (with_reducible first | exact HB.out | apply below_alloc | apply pw_below_drewN | apply below_drew1) | exact HB.out)) hb); have n1_ := Aside0.mk (hbox); have n2_ := Aside0.mk ((by rw [hg]; exact (below_size (by repeat (first | (with_reducible first | exact HB.out | apply below_alloc | apply pw_below_drewN | apply below_drew1) | exact HB.out))) : w.heap.size ≤ gb360)); have n3_ := Aside0.mk ((by rw [hg]; exact (below_size (by repeat (first | (with_reducible first | exact HB.out | apply below_alloc | apply pw_below_drewN | apply below_drew1) | exact HB.out))) : w.heap.size ≤ gb360)); clear HB; have HB := n0_; have BK360 := n1_; have GW360 := n2_; have GE360 := n3_; clear n0_ n1_ n2_ n3_; clear hb hbox hg; obtain ⟨hcz6_0, hcz6_1, hcz6_2, hcz6_3, hcz6_4, hcz6_5, hcz6_6, hcz6_7, hcz6_8, hcz6_9, hcz6_10, hcz6_11, hcz6_12⟩ := cells13 BK360.out; obtain ⟨hfz6_0, hfz6_1, hfz6_2, hfz6_3, hfz6_4, hfz6_5, hfz6_6, hfz6_7, hfz6_8, hfz6_9, hfz6_10, hfz6_11, hfz6_12⟩ := froz13 BK360.out) | (go_at_call 35; (try simp only [← List.length_take, ← List.length_drop]); (with_reducible refine (clock_At.calls _ _ l0 a1_1 t361 _ ?side1 ?side2 A3.out).mono ?_); (case side1 => repeat (first | exact (Kd.C_below HR0.out HB.out) | (with_reducible refine Kd.C_alloc ?_ _) | (with_reducible refine Kd.C_drewN ?_ _) | (with_reducible refine Kd.C_drew ?_))); (case side2 => exact HC0.out); rintro e w' ⟨rfl, ⟨nd, rfl⟩⟩; (try first | exact ⟨rfl, _, World.drewN_drewN _ _ _⟩ | exact ⟨rfl, _, Eq.trans (World.drewN_drewN _ _ _) (congrArg (World.drewN _) (Nat.add_assoc _ _ _))⟩)))
  repeat (go_quiet (first | ((with_reducible refine gate_dst (N := 3) rfl ?_); refine box_event ?hg (N := 3) ?hd (cs := #[.int .i64 a1_0, .int .i64 a1_1, .int .i64 a1_2, .slice A1_3 l1_3.length c1_3, .int .i64 a1_4, .int .i64 a1_5, .int .i64 a1_6, .int .i64 a1_7, .int .i64 a1_8, .int .i64 a1_9, .int .i64 a1_10, .string a1_11, .string a1_12]) (t := 32) ?hr ?_; (case hd => rfl); (case hg => rfl); (case hr => first | (go_simp; done) | (go_simp; rfl)); intro gb360 hg w5 hbox hb; have n0_ := Aside0.mk (below_step (by repeat (first | (with_reducible first | exact HB.out | apply below_alloc | apply pw_below_drewN | apply below_drew1) | exact HB.out)) hb); have n1_ := Aside0.mk (hbox); have n2_ := Aside0.mk ((by rw [hg]; exact (below_size (by repeat (first | (with_reducible first | exact HB.out | apply below_alloc | apply pw_below_drewN | apply below_drew1) | exact HB.out))) : w.heap.size ≤ gb360)); have n3_ := Aside0.mk ((by rw [hg]; exact (below_size (by repeat (first | (with_reducible first | exact HB.out | apply below_alloc | apply pw_below_drewN | apply below_drew1) | exact HB.out))) : w.heap.size ≤ gb360)); clear HB; have HB := n0_; have BK360 := n1_; have GW360 := n2_; have GE360 := n3_; clear n0_ n1_ n2_ n3_; clear hb hbox hg; obtain ⟨hcz6_0, hcz6_1, hcz6_2, hcz6_3, hcz6_4, hcz6_5, hcz6_6, hcz6_7, hcz6_8, hcz6_9, hcz6_10, hcz6_11, hcz6_12⟩ := cells13 BK360.out; obtain ⟨hfz6_0, hfz6_1, hfz6_2, hfz6_3, hfz6_4, hfz6_5, hfz6_6, hfz6_7, hfz6_8, hfz6_9, hfz6_10, hfz6_11, hfz6_12⟩ := froz13 BK360.out) | (go_at_call 35; (try simp only [← List.length_take, ← List.length_drop]); (with_reducible refine (clock_At.calls _ _ l0 a1_1 t361 _ ?side1 ?side2 A3.out).mono ?_); (case side1 => repeat (first | exact (Kd.C_below HR0.out HB.out) | (with_reducible refine Kd.C_alloc ?_ _) | (with_reducible refine Kd.C_drewN ?_ _) | (with_reducible refine Kd.C_drew ?_))); (case side2 => exact HC0.out); rintro e w' ⟨rfl, ⟨nd, rfl⟩⟩; (try first | exact ⟨rfl, _, World.drewN_drewN _ _ _⟩ | exact ⟨rfl, _, Eq.trans (World.drewN_drewN _ _ _) (congrArg (World.drewN _) (Nat.add_assoc _ _ _))⟩))); try go_wp2_with (first | ((with_reducible refine gate_dst (N := 3) rfl ?_); refine box_event ?hg (N := 3) ?hd (cs := #[.int .i64 a1_0, .int .i64 a1_1, .int .i64 a1_2, .slice A1_3 l1_3.length c1_3, .int .i64 a1_4, .int .i64 a1_5, .int .i64 a1_6, .int .i64 a1_7, .int .i64 a1_8, .int .i64 a1_9, .int .i64 a1_10, .string a1_11, .string a1_12]) (t := 32) ?hr ?_; (case hd => rfl); (case hg => rfl); (case hr => first | (go_simp; done) | (go_simp; rfl)); intro gb360 hg w5 hbox hb; have n0_ := Aside0.mk (below_step (by repeat (first | (with_reducible first | exact HB.out | apply below_alloc | apply pw_below_drewN | apply below_drew1) | exact HB.out)) hb); have n1_ := Aside0.mk (hbox); have n2_ := Aside0.mk ((by rw [hg]; exact (below_size (by repeat (first | (with_reducible first | exact HB.out | apply below_alloc | apply pw_below_drewN | apply below_drew1) | exact HB.out))) : w.heap.size ≤ gb360)); have n3_ := Aside0.mk ((by rw [hg]; exact (below_size (by repeat (first | (with_reducible first | exact HB.out | apply below_alloc | apply pw_below_drewN | apply below_drew1) | exact HB.out))) : w.heap.size ≤ gb360)); clear HB; have HB := n0_; have BK360 := n1_; have GW360 := n2_; have GE360 := n3_; clear n0_ n1_ n2_ n3_; clear hb hbox hg; obtain ⟨hcz6_0, hcz6_1, hcz6_2, hcz6_3, hcz6_4, hcz6_5, hcz6_6, hcz6_7, hcz6_8, hcz6_9, hcz6_10, hcz6_11, hcz6_12⟩ := cells13 BK360.out; obtain ⟨hfz6_0, hfz6_1, hfz6_2, hfz6_3, hfz6_4, hfz6_5, hfz6_6, hfz6_7, hfz6_8, hfz6_9, hfz6_10, hfz6_11, hfz6_12⟩ := froz13 BK360.out) | (go_at_call 35; (try simp only [← List.length_take, ← List.length_drop]); (with_reducible refine (clock_At.calls _ _ l0 a1_1 t361 _ ?side1 ?side2 A3.out).mono ?_); (case side1 => repeat (first | exact (Kd.C_below HR0.out HB.out) | (with_reducible refine Kd.C_alloc ?_ _) | (with_reducible refine Kd.C_drewN ?_ _) | (with_reducible refine Kd.C_drew ?_))); (case side2 => exact HC0.out); rintro e w' ⟨rfl, ⟨nd, rfl⟩⟩; (try first | exact ⟨rfl, _, World.drewN_drewN _ _ _⟩ | exact ⟨rfl, _, Eq.trans (World.drewN_drewN _ _ _) (congrArg (World.drewN _) (Nat.add_assoc _ _ _))⟩))))
  go_loopg [19] k (fun kq v19 w' => ∃ (x19_1 : Int), v19 = .int .i64 x19_1 ∧ Aside0 (causal_ready.l0 kq l0 l1_3 (l1_3.length : Int) x19_1 = some r) ∧ Aside0 (kq ≤ k) ∧ Aside0 (w'.heap[gb360]? = some (.cells #[.int .i64 a1_0, .int .i64 a1_1, .int .i64 a1_2, (.slice A1_3 l1_3.length c1_3), .int .i64 a1_4, .int .i64 a1_5, .int .i64 a1_6, .int .i64 a1_7, .int .i64 a1_8, .int .i64 a1_9, .int .i64 a1_10, .string a1_11, .string a1_12] 32 (0, 0))) ∧ Aside0 (Below w.heap.size w w'))
  case atStart => exact ⟨(0), (by first | rfl | (simp; done) | (simp [*]; done)), H', ⟨Nat.le_refl _⟩, ⟨by (with_reducible repeat (first | refine blk_drewN ?_ _ | refine blk_drew ?_ | refine blk_alloc ?_ _)); exact BK360.out⟩, ⟨by repeat (first | (with_reducible first | exact HB.out | apply below_alloc | apply pw_below_drewN | apply below_drew1 | refine below_set ?_ GE360.out) | exact HB.out)⟩⟩
  case round =>
   clear H'
   (try clear c1); (try clear p2); (try clear c3); (try clear c4); (try clear c4b0); (try clear c4b1); (try clear p6); (try clear hcz6_0 hcz6_1 hcz6_10 hcz6_11 hcz6_12 hcz6_2 hcz6_3 hcz6_4 hcz6_5 hcz6_6 hcz6_7 hcz6_8 hcz6_9); (try clear hfz6_0 hfz6_1 hfz6_10 hfz6_11 hfz6_12 hfz6_2 hfz6_3 hfz6_4 hfz6_5 hfz6_6 hfz6_7 hfz6_8 hfz6_9)
   obtain ⟨x19_1, rfl, HA, HK1, BK360, HB⟩ := hrel
   cases gk with
   | zero => exact absurd HA.out (by simp [causal_ready.l0])
   | succ k1 =>
    have H := HA.out
    clear HA
    simp only [causal_ready.l0] at H
    by_cases c7 : x19_1 < (l1_3.length : Int)
    ·rw [if_pos c7] at H
     have c7b0 : decide (x19_1 < (l1_3.length : Int)) = true := decide_eq_true c7
     clear c7
     by_cases c8 : 0 ≤ x19_1
     ·rw [if_pos c8] at H
      have c8b0 : decide (0 ≤ x19_1) = true := decide_eq_true c8
      clear c8
      by_cases c9 : x19_1 < (l1_3.length : Int)
      ·rw [if_pos c9] at H
       have c9b0 : decide (x19_1 < (l1_3.length : Int)) = true := decide_eq_true c9
       clear c9
       replace H := Option.bind_eq_some_iff.mp H
       obtain ⟨t363, A100, H⟩ := H
       replace H : (if (rd l1_3 x19_1) > t363 then (some false) else (causal_ready.l0 k1 l0 l1_3 (l1_3.length : Int) (wrap64 (x19_1 + 1)))) = some r := H
       have A10 := Aside0.mk A100
       clear A100
       by_cases c11 : (rd l1_3 x19_1) > t363
       ·rw [if_pos c11] at H
        have c11b0 : decide (t363 < (rd l1_3 x19_1)) = true := decide_eq_true c11
        clear c11
        obtain rfl := Option.some.inj H
        have p362 : 0 ≤ (x19_1 : Int) := of_decide_eq_true (by first | (with_reducible assumption) | assumption)
        have q362 : x19_1 < (l1_3.length : Int) := of_decide_eq_true (by first | (with_reducible assumption) | assumption)
        obtain ⟨ad362, e362, hx362_0⟩ := Kd.at_int HR1_3.out x19_1 p362 q362
        cases e362
        replace hx362_0 := (HB.out.cell (World.block_lt_of_cell? w _ hx362_0)).trans hx362_0
        replace p362 := eq_true p362
        replace q362 := eq_true q362
        go_wp2_with (first | (go_at_call 35; (try simp only [← List.length_take, ← List.length_drop]); (with_reducible refine (clock_At.calls _ _ l0 x19_1 t363 _ ?side1 ?side2 A10.out).mono ?_); (case side1 => repeat (first | exact (Kd.C_below HR0.out HB.out) | (with_reducible refine Kd.C_alloc ?_ _) | (with_reducible refine Kd.C_drewN ?_ _) | (with_reducible refine Kd.C_drew ?_))); (case side2 => exact HC0.out); rintro e w' ⟨rfl, ⟨nd, rfl⟩⟩; (try first | exact ⟨rfl, _, World.drewN_drewN _ _ _⟩ | exact ⟨rfl, _, Eq.trans (World.drewN_drewN _ _ _) (congrArg (World.drewN _) (Nat.add_assoc _ _ _))⟩)))
        repeat (go_quiet (first | (go_at_call 35; (try simp only [← List.length_take, ← List.length_drop]); (with_reducible refine (clock_At.calls _ _ l0 x19_1 t363 _ ?side1 ?side2 A10.out).mono ?_); (case side1 => repeat (first | exact (Kd.C_below HR0.out HB.out) | (with_reducible refine Kd.C_alloc ?_ _) | (with_reducible refine Kd.C_drewN ?_ _) | (with_reducible refine Kd.C_drew ?_))); (case side2 => exact HC0.out); rintro e w' ⟨rfl, ⟨nd, rfl⟩⟩; (try first | exact ⟨rfl, _, World.drewN_drewN _ _ _⟩ | exact ⟨rfl, _, Eq.trans (World.drewN_drewN _ _ _) (congrArg (World.drewN _) (Nat.add_assoc _ _ _))⟩))); try go_wp2_with (first | (go_at_call 35; (try simp only [← List.length_take, ← List.length_drop]); (with_reducible refine (clock_At.calls _ _ l0 x19_1 t363 _ ?side1 ?side2 A10.out).mono ?_); (case side1 => repeat (first | exact (Kd.C_below HR0.out HB.out) | (with_reducible refine Kd.C_alloc ?_ _) | (with_reducible refine Kd.C_drewN ?_ _) | (with_reducible refine Kd.C_drew ?_))); (case side2 => exact HC0.out); rintro e w' ⟨rfl, ⟨nd, rfl⟩⟩; (try first | exact ⟨rfl, _, World.drewN_drewN _ _ _⟩ | exact ⟨rfl, _, Eq.trans (World.drewN_drewN _ _ _) (congrArg (World.drewN _) (Nat.add_assoc _ _ _))⟩))))
        go_ret
        exact ⟨by first | rfl | (simp [errW_none, errW_some] <;> rfl) | (simp [*, errW_none, errW_some] <;> rfl), by repeat (first | (with_reducible first | exact HB.out | apply below_alloc | apply pw_below_drewN | apply below_drew1 | refine below_set ?_ GE360.out) | exact HB.out)⟩
       ·rw [if_neg c11] at H
        have c11b0 : decide (t363 < (rd l1_3 x19_1)) = false := decide_eq_false c11
        clear c11
        have H' := Aside0.mk H
        clear H
        have p362 : 0 ≤ (x19_1 : Int) := of_decide_eq_true (by first | (with_reducible assumption) | assumption)
        have q362 : x19_1 < (l1_3.length : Int) := of_decide_eq_true (by first | (with_reducible assumption) | assumption)
        obtain ⟨ad362, e362, hx362_0⟩ := Kd.at_int HR1_3.out x19_1 p362 q362
        cases e362
        replace hx362_0 := (HB.out.cell (World.block_lt_of_cell? w _ hx362_0)).trans hx362_0
        replace p362 := eq_true p362
        replace q362 := eq_true q362
        go_wp2_with (first | (go_at_call 35; (try simp only [← List.length_take, ← List.length_drop]); (with_reducible refine (clock_At.calls _ _ l0 x19_1 t363 _ ?side1 ?side2 A10.out).mono ?_); (case side1 => repeat (first | exact (Kd.C_below HR0.out HB.out) | (with_reducible refine Kd.C_alloc ?_ _) | (with_reducible refine Kd.C_drewN ?_ _) | (with_reducible refine Kd.C_drew ?_))); (case side2 => exact HC0.out); rintro e w' ⟨rfl, ⟨nd, rfl⟩⟩; (try first | exact ⟨rfl, _, World.drewN_drewN _ _ _⟩ | exact ⟨rfl, _, Eq.trans (World.drewN_drewN _ _ _) (congrArg (World.drewN _) (Nat.add_assoc _ _ _))⟩)))
        repeat (go_quiet (first | (go_at_call 35; (try simp only [← List.length_take, ← List.length_drop]); (with_reducible refine (clock_At.calls _ _ l0 x19_1 t363 _ ?side1 ?side2 A10.out).mono ?_); (case side1 => repeat (first | exact (Kd.C_below HR0.out HB.out) | (with_reducible refine Kd.C_alloc ?_ _) | (with_reducible refine Kd.C_drewN ?_ _) | (with_reducible refine Kd.C_drew ?_))); (case side2 => exact HC0.out); rintro e w' ⟨rfl, ⟨nd, rfl⟩⟩; (try first | exact ⟨rfl, _, World.drewN_drewN _ _ _⟩ | exact ⟨rfl, _, Eq.trans (World.drewN_drewN _ _ _) (congrArg (World.drewN _) (Nat.add_assoc _ _ _))⟩))); try go_wp2_with (first | (go_at_call 35; (try simp only [← List.length_take, ← List.length_drop]); (with_reducible refine (clock_At.calls _ _ l0 x19_1 t363 _ ?side1 ?side2 A10.out).mono ?_); (case side1 => repeat (first | exact (Kd.C_below HR0.out HB.out) | (with_reducible refine Kd.C_alloc ?_ _) | (with_reducible refine Kd.C_drewN ?_ _) | (with_reducible refine Kd.C_drew ?_))); (case side2 => exact HC0.out); rintro e w' ⟨rfl, ⟨nd, rfl⟩⟩; (try first | exact ⟨rfl, _, World.drewN_drewN _ _ _⟩ | exact ⟨rfl, _, Eq.trans (World.drewN_drewN _ _ _) (congrArg (World.drewN _) (Nat.add_assoc _ _ _))⟩))))
        go_roundg k1
        case measure => have := HK1.out; omega
        case rel => exact ⟨(wrap64 (x19_1 + 1)), (by first | rfl | (simp; done) | (simp [*]; done)), H', ⟨by have := HK1.out; omega⟩, ⟨by (with_reducible repeat (first | refine blk_drewN ?_ _ | refine blk_drew ?_ | refine blk_alloc ?_ _)); exact BK360.out⟩, ⟨by repeat (first | (with_reducible first | exact HB.out | apply below_alloc | apply pw_below_drewN | apply below_drew1 | refine below_set ?_ GE360.out) | exact HB.out)⟩⟩
      ·rw [if_neg c9] at H
       exact absurd H (by simp)
     ·rw [if_neg c8] at H
      exact absurd H (by simp)
    ·rw [if_neg c7] at H
     have c7b0 : decide (x19_1 < (l1_3.length : Int)) = false := decide_eq_false c7
     clear c7
     obtain rfl := Option.some.inj H
     go_wp2
     repeat (go_quiet (fail); try go_wp2)
     go_ret
     exact ⟨by first | rfl | (simp [errW_none, errW_some] <;> rfl) | (simp [*, errW_none, errW_some] <;> rfl), by repeat (first | (with_reducible first | exact HB.out | apply below_alloc | apply pw_below_drewN | apply below_drew1 | refine below_set ?_ GE360.out) | exact HB.out)⟩
 ·rw [if_neg c4] at H
  have c4b0 : (a1_2 == (wrap64 (t361 + 1))) = false := beq_eq_false_iff_ne.mpr c4
  have c4b1 : (a1_2 != (wrap64 (t361 + 1))) = true := bne_iff_ne.mpr c4
  obtain rfl := Option.some.inj H
  go_enter Try.func37, Try.ntmps37
  go_wp2_with (first | ((with_reducible refine gate_dst (N := 3) rfl ?_); refine box_event ?hg (N := 3) ?hd (cs := #[.int .i64 a1_0, .int .i64 a1_1, .int .i64 a1_2, .slice A1_3 l1_3.length c1_3, .int .i64 a1_4, .int .i64 a1_5, .int .i64 a1_6, .int .i64 a1_7, .int .i64 a1_8, .int .i64 a1_9, .int .i64 a1_10, .string a1_11, .string a1_12]) (t := 32) ?hr ?_; (case hd => rfl); (case hg => rfl); (case hr => first | (go_simp; done) | (go_simp; rfl)); intro gb360 hg w12 hbox hb; have n0_ := Aside0.mk (below_step (by repeat (first | (with_reducible first | exact HB.out | apply below_alloc | apply pw_below_drewN | apply below_drew1) | exact HB.out)) hb); have n1_ := Aside0.mk (hbox); have n2_ := Aside0.mk ((by rw [hg]; exact (below_size (by repeat (first | (with_reducible first | exact HB.out | apply below_alloc | apply pw_below_drewN | apply below_drew1) | exact HB.out))) : w.heap.size ≤ gb360)); have n3_ := Aside0.mk ((by rw [hg]; exact (below_size (by repeat (first | (with_reducible first | exact HB.out | apply below_alloc | apply pw_below_drewN | apply below_drew1) | exact HB.out))) : w.heap.size ≤ gb360)); clear HB; have HB := n0_; have BK360 := n1_; have GW360 := n2_; have GE360 := n3_; clear n0_ n1_ n2_ n3_; clear hb hbox hg; obtain ⟨hcz13_0, hcz13_1, hcz13_2, hcz13_3, hcz13_4, hcz13_5, hcz13_6, hcz13_7, hcz13_8, hcz13_9, hcz13_10, hcz13_11, hcz13_12⟩ := cells13 BK360.out; obtain ⟨hfz13_0, hfz13_1, hfz13_2, hfz13_3, hfz13_4, hfz13_5, hfz13_6, hfz13_7, hfz13_8, hfz13_9, hfz13_10, hfz13_11, hfz13_12⟩ := froz13 BK360.out) | (go_at_call 35; (try simp only [← List.length_take, ← List.length_drop]); (with_reducible refine (clock_At.calls _ _ l0 a1_1 t361 _ ?side1 ?side2 A3.out).mono ?_); (case side1 => repeat (first | exact (Kd.C_below HR0.out HB.out) | (with_reducible refine Kd.C_alloc ?_ _) | (with_reducible refine Kd.C_drewN ?_ _) | (with_reducible refine Kd.C_drew ?_))); (case side2 => exact HC0.out); rintro e w' ⟨rfl, ⟨nd, rfl⟩⟩; (try first | exact ⟨rfl, _, World.drewN_drewN _ _ _⟩ | exact ⟨rfl, _, Eq.trans (World.drewN_drewN _ _ _) (congrArg (World.drewN _) (Nat.add_assoc _ _ _))⟩)))
  repeat (go_quiet (first | ((with_reducible refine gate_dst (N := 3) rfl ?_); refine box_event ?hg (N := 3) ?hd (cs := #[.int .i64 a1_0, .int .i64 a1_1, .int .i64 a1_2, .slice A1_3 l1_3.length c1_3, .int .i64 a1_4, .int .i64 a1_5, .int .i64 a1_6, .int .i64 a1_7, .int .i64 a1_8, .int .i64 a1_9, .int .i64 a1_10, .string a1_11, .string a1_12]) (t := 32) ?hr ?_; (case hd => rfl); (case hg => rfl); (case hr => first | (go_simp; done) | (go_simp; rfl)); intro gb360 hg w12 hbox hb; have n0_ := Aside0.mk (below_step (by repeat (first | (with_reducible first | exact HB.out | apply below_alloc | apply pw_below_drewN | apply below_drew1) | exact HB.out)) hb); have n1_ := Aside0.mk (hbox); have n2_ := Aside0.mk ((by rw [hg]; exact (below_size (by repeat (first | (with_reducible first | exact HB.out | apply below_alloc | apply pw_below_drewN | apply below_drew1) | exact HB.out))) : w.heap.size ≤ gb360)); have n3_ := Aside0.mk ((by rw [hg]; exact (below_size (by repeat (first | (with_reducible first | exact HB.out | apply below_alloc | apply pw_below_drewN | apply below_drew1) | exact HB.out))) : w.heap.size ≤ gb360)); clear HB; have HB := n0_; have BK360 := n1_; have GW360 := n2_; have GE360 := n3_; clear n0_ n1_ n2_ n3_; clear hb hbox hg; obtain ⟨hcz13_0, hcz13_1, hcz13_2, hcz13_3, hcz13_4, hcz13_5, hcz13_6, hcz13_7, hcz13_8, hcz13_9, hcz13_10, hcz13_11, hcz13_12⟩ := cells13 BK360.out; obtain ⟨hfz13_0, hfz13_1, hfz13_2, hfz13_3, hfz13_4, hfz13_5, hfz13_6, hfz13_7, hfz13_8, hfz13_9, hfz13_10, hfz13_11, hfz13_12⟩ := froz13 BK360.out) | (go_at_call 35; (try simp only [← List.length_take, ← List.length_drop]); (with_reducible refine (clock_At.calls _ _ l0 a1_1 t361 _ ?side1 ?side2 A3.out).mono ?_); (case side1 => repeat (first | exact (Kd.C_below HR0.out HB.out) | (with_reducible refine Kd.C_alloc ?_ _) | (with_reducible refine Kd.C_drewN ?_ _) | (with_reducible refine Kd.C_drew ?_))); (case side2 => exact HC0.out); rintro e w' ⟨rfl, ⟨nd, rfl⟩⟩; (try first | exact ⟨rfl, _, World.drewN_drewN _ _ _⟩ | exact ⟨rfl, _, Eq.trans (World.drewN_drewN _ _ _) (congrArg (World.drewN _) (Nat.add_assoc _ _ _))⟩))); try go_wp2_with (first | ((with_reducible refine gate_dst (N := 3) rfl ?_); refine box_event ?hg (N := 3) ?hd (cs := #[.int .i64 a1_0, .int .i64 a1_1, .int .i64 a1_2, .slice A1_3 l1_3.length c1_3, .int .i64 a1_4, .int .i64 a1_5, .int .i64 a1_6, .int .i64 a1_7, .int .i64 a1_8, .int .i64 a1_9, .int .i64 a1_10, .string a1_11, .string a1_12]) (t := 32) ?hr ?_; (case hd => rfl); (case hg => rfl); (case hr => first | (go_simp; done) | (go_simp; rfl)); intro gb360 hg w12 hbox hb; have n0_ := Aside0.mk (below_step (by repeat (first | (with_reducible first | exact HB.out | apply below_alloc | apply pw_below_drewN | apply below_drew1) | exact HB.out)) hb); have n1_ := Aside0.mk (hbox); have n2_ := Aside0.mk ((by rw [hg]; exact (below_size (by repeat (first | (with_reducible first | exact HB.out | apply below_alloc | apply pw_below_drewN | apply below_drew1) | exact HB.out))) : w.heap.size ≤ gb360)); have n3_ := Aside0.mk ((by rw [hg]; exact (below_size (by repeat (first | (with_reducible first | exact HB.out | apply below_alloc | apply pw_below_drewN | apply below_drew1) | exact HB.out))) : w.heap.size ≤ gb360)); clear HB; have HB := n0_; have BK360 := n1_; have GW360 := n2_; have GE360 := n3_; clear n0_ n1_ n2_ n3_; clear hb hbox hg; obtain ⟨hcz13_0, hcz13_1, hcz13_2, hcz13_3, hcz13_4, hcz13_5, hcz13_6, hcz13_7, hcz13_8, hcz13_9, hcz13_10, hcz13_11, hcz13_12⟩ := cells13 BK360.out; obtain ⟨hfz13_0, hfz13_1, hfz13_2, hfz13_3, hfz13_4, hfz13_5, hfz13_6, hfz13_7, hfz13_8, hfz13_9, hfz13_10, hfz13_11, hfz13_12⟩ := froz13 BK360.out) | (go_at_call 35; (try simp only [← List.length_take, ← List.length_drop]); (with_reducible refine (clock_At.calls _ _ l0 a1_1 t361 _ ?side1 ?side2 A3.out).mono ?_); (case side1 => repeat (first | exact (Kd.C_below HR0.out HB.out) | (with_reducible refine Kd.C_alloc ?_ _) | (with_reducible refine Kd.C_drewN ?_ _) | (with_reducible refine Kd.C_drew ?_))); (case side2 => exact HC0.out); rintro e w' ⟨rfl, ⟨nd, rfl⟩⟩; (try first | exact ⟨rfl, _, World.drewN_drewN _ _ _⟩ | exact ⟨rfl, _, Eq.trans (World.drewN_drewN _ _ _) (congrArg (World.drewN _) (Nat.add_assoc _ _ _))⟩))))
  go_ret
  exact ⟨by first | rfl | (simp [errW_none, errW_some] <;> rfl) | (simp [*, errW_none, errW_some] <;> rfl), by repeat (first | (with_reducible first | exact HB.out | apply below_alloc | apply pw_below_drewN | apply below_drew1 | refine below_set ?_ GE360.out) | exact HB.out)⟩
end Go.Proofs.Ytnopjjilpgekfaa.PCa
namespace Go.Proofs.Ytnopjjilpgekfaa.PCa
open Go.RowKit Go.Proofs.YtnopjjilpgekfaaW.PrintWords Go.Proofs.YtnopjjilpgekfaaW.PrintLast Go.Proofs.YtnopjjilpgekfaaW.PrintMore
attribute [local go_sem] max2_int min2_int max_two min_two max_three min_three max_four min_four   -- for this text's walks alone
set_option linter.unusedVariables false
set_option linter.unusedSimpArgs false
def topiaryref02_Under.l0 : Nat → List Int → List Int → Int → Option (Bool)
 | 0, _, _, _ => none
 | k + 1, x0, x1, x5 => if x5 < (x0.length : Int) then (if 0 ≤ x5 then ((topiaryref02_At.f x1 x5).bind fun t164 => (if (rd x0 x5) > t164 then (some false) else (topiaryref02_Under.l0 k x0 x1 (wrap64 (x5 + 1))))) else (none)) else (some true)
def topiaryref02_Under.f (k : Nat) (l0 : List Int) (l1 : List Int) : Option (Bool) := topiaryref02_Under.l0 k l0 l1 0
theorem topiaryref02_Under.mono_l : ∀ k, (∀ y0 y1 y2, LeO (topiaryref02_Under.l0 k y0 y1 y2) (topiaryref02_Under.l0 (k + 1) y0 y1 y2))
 | 0 => fun _ _ _ r h => by simp [topiaryref02_Under.l0] at h
 | k + 1 => by
  have ih0 := topiaryref02_Under.mono_l k
  ·intro y0 y1 y2
   unfold topiaryref02_Under.l0
   repeat' first
   | (with_reducible exact ih0 _ _ _)
   | (with_reducible exact LeO.refl _)
   | (with_reducible exact LeO.none _)
   | (with_reducible refine LeO.ite ?_ ?_)
   | (with_reducible refine LeO.bind ?_ (fun _ => ?_))
   | exact ih0 _ _ _
   | exact LeO.none _
   | refine LeO.ite ?_ ?_
   | refine LeO.bind ?_ (fun _ => ?_)
theorem topiaryref02_Under.mono : ∀ a0 a1 k, LeO (topiaryref02_Under.f k a0 a1) (topiaryref02_Under.f (k + 1) a0 a1) := by
 intro a0 a1 k
 have ih0 := topiaryref02_Under.mono_l k
 unfold topiaryref02_Under.f
 repeat' first
   | (with_reducible exact ih0 _ _ _)
   | (with_reducible exact LeO.refl _)
   | (with_reducible exact LeO.none _)
   | (with_reducible refine LeO.ite ?_ ?_)
   | (with_reducible refine LeO.bind ?_ (fun _ => ?_))
   | exact ih0 _ _ _
   | exact LeO.none _
   | refine LeO.ite ?_ ?_
   | refine LeO.bind ?_ (fun _ => ?_)
end Go.Proofs.Ytnopjjilpgekfaa.PCa
namespace Go.Proofs.Ytnopjjilpgekfaa.PCa
open Go.RowKit Go.Proofs.YtnopjjilpgekfaaW.PrintWords Go.Proofs.YtnopjjilpgekfaaW.PrintLast Go.Proofs.YtnopjjilpgekfaaW.PrintMore
attribute [local go_sem] max2_int min2_int max_two min_two max_three min_three max_four min_four   -- for this text's walks alone
set_option linter.unusedVariables false
set_option linter.unusedSimpArgs false
def topiaryref09_Ripe.f (k : Nat) (l0 : List Int) (a1_0 : Int) (a1_1 : Int) (a1_2 : Int) (l1_3 : List Int) (a1_4 : Int) (a1_5 : Int) (a1_6 : Int) (a1_7 : Int) (a1_8 : Int) (a1_9 : Int) (a1_10 : Int) (a1_11 : ByteArray) (a1_12 : ByteArray) : Option (Bool) := (topiaryref02_At.f l0 a1_1).bind fun t425 => (if (wrap64 (a1_2 - 1)) = t425 then ((topiaryref02_Under.f k l1_3 l0).bind fun t426 => (some t426)) else (some false))
theorem topiaryref09_Ripe.mono : ∀ a0 a1 a2 a3 a4 a5 a6 a7 a8 a9 a10 a11 a12 a13 k, LeO (topiaryref09_Ripe.f k a0 a1 a2 a3 a4 a5 a6 a7 a8 a9 a10 a11 a12 a13) (topiaryref09_Ripe.f (k + 1) a0 a1 a2 a3 a4 a5 a6 a7 a8 a9 a10 a11 a12 a13) := by
 intro a0 a1 a2 a3 a4 a5 a6 a7 a8 a9 a10 a11 a12 a13 k
 unfold topiaryref09_Ripe.f
 repeat' first
   | (with_reducible exact topiaryref02_Under.mono _ _ _)
   | (with_reducible exact LeO.refl _)
   | (with_reducible exact LeO.none _)
   | (with_reducible refine LeO.ite ?_ ?_)
   | (with_reducible refine LeO.bind ?_ (fun _ => ?_))
   | exact topiaryref02_Under.mono _ _ _
   | exact LeO.none _
   | refine LeO.ite ?_ ?_
   | refine LeO.bind ?_ (fun _ => ?_)
end Go.Proofs.Ytnopjjilpgekfaa.PCa
namespace Go.Proofs.Ytnopjjilpgekfaa.PCa
open Go.RowKit Go.Proofs.YtnopjjilpgekfaaW.PrintWords Go.Proofs.YtnopjjilpgekfaaW.PrintLast Go.Proofs.YtnopjjilpgekfaaW.PrintMore
set_option linter.unusedVariables false
set_option linter.unusedSimpArgs false
def underN (d known : List Int) : Nat → Nat → Bool
 | 0, _ => true
 | n + 1, i => decide (rd d (i : Int) ≤ atC known i) && underN d known n (i + 1)
def ripeC (known : List Int) (x : S32) : Bool := decide (x.f1 - 1 = atC known x.f0.f1) && underN x.f2 known x.f2.length 0
theorem ready_loop (d known : List Int) (hl : d.length ≤ 64) : ∀ (n i k : Nat), i + n = d.length → n < k → causal_ready.l0 k known d (d.length : Int) (i : Int) = some (underN d known n i) := by
 intro n
 induction n with
 | zero =>
  intro i k hi hk
  obtain ⟨k, rfl⟩ : ∃ m, k = m + 1 := ⟨k - 1, by omega⟩
  rw [causal_ready.l0, if_neg (by omega)]
  rfl
 | succ n ih =>
  intro i k hi hk
  obtain ⟨k, rfl⟩ : ∃ m, k = m + 1 := ⟨k - 1, by omega⟩
  rw [causal_ready.l0, if_pos (by omega), if_pos (by omega), if_pos (by omega), clock_At_is, Option.bind_some, underN]
  by_cases h : rd d (i : Int) > atC known i
  ·rw [if_pos h, decide_eq_false (by omega)]; rfl
  ·rw [if_neg h, w1 (by omega), ih (i + 1) k (by omega) (by omega), decide_eq_true (by omega), Bool.true_and]
theorem ready_is {known : List Int} {x : S32} (hk : chkC known = 0) (hl : x.f2.length ≤ 64) (k : Nat) (h : 70 < k) :
  causal_ready.f k known x.f0.f0 x.f0.f1 x.f1 x.f2 x.f3 x.f4.f0 x.f4.f1 x.f5.f0 x.f5.f1 x.f6.f0 x.f6.f1 x.f7 x.f8 = some (ripeC known x) := by
 have hb := chk_rd hk x.f0.f1
 unfold causal_ready.f ripeC
 rw [clock_At_is, Option.bind_some]
 have hw : wrap64 (atC known x.f0.f1 + 1) = atC known x.f0.f1 + 1 := by rw [← i64_w, IntKind.wrap_i64]; omega
 rw [hw]
 by_cases h1 : x.f1 = atC known x.f0.f1 + 1
 ·have := ready_loop x.f2 known hl x.f2.length 0 k (by omega) (by omega)
  rw [if_pos h1, decide_eq_true (by omega), Bool.true_and]
  exact this
 ·rw [if_neg h1, decide_eq_false (by omega)]; rfl
end Go.Proofs.Ytnopjjilpgekfaa.PCa
namespace Go.Proofs.Ytnopjjilpgekfaa.PCa
open Go.RowKit Go.Proofs.YtnopjjilpgekfaaW.PrintWords Go.Proofs.YtnopjjilpgekfaaW.PrintLast Go.Proofs.YtnopjjilpgekfaaW.PrintMore
attribute [local go_sem] max2_int min2_int max_two min_two max_three min_three max_four min_four   -- for this text's walks alone
set_option linter.unusedVariables false
set_option linter.unusedSimpArgs false
def causal_Ready.f (k : Nat) (l0 : List Int) (a1_0 : Int) (a1_1 : Int) (a1_2 : Int) (l1_3 : List Int) (a1_4 : Int) (a1_5 : Int) (a1_6 : Int) (a1_7 : Int) (a1_8 : Int) (a1_9 : Int) (a1_10 : Int) (a1_11 : ByteArray) (a1_12 : ByteArray) : Option (Bool) := (clock_Check.f k l0).bind fun t238 => (if t238 = 0 then ((change_Check.f k a1_0 a1_1 a1_2 l1_3 a1_4 a1_5 a1_6 a1_7 a1_8 a1_9 a1_10 a1_11 a1_12).bind fun t239 => (if t239 = 0 then ((causal_ready.f k l0 a1_0 a1_1 a1_2 l1_3 a1_4 a1_5 a1_6 a1_7 a1_8 a1_9 a1_10 a1_11 a1_12).bind fun t240 => (some t240)) else (some false))) else (some false))
theorem causal_Ready.mono : ∀ a0 a1 a2 a3 a4 a5 a6 a7 a8 a9 a10 a11 a12 a13 k, LeO (causal_Ready.f k a0 a1 a2 a3 a4 a5 a6 a7 a8 a9 a10 a11 a12 a13) (causal_Ready.f (k + 1) a0 a1 a2 a3 a4 a5 a6 a7 a8 a9 a10 a11 a12 a13) := by
 intro a0 a1 a2 a3 a4 a5 a6 a7 a8 a9 a10 a11 a12 a13 k
 unfold causal_Ready.f
 repeat' first
   | (with_reducible exact causal_ready.mono _ _ _ _ _ _ _ _ _ _ _ _ _ _ _)
   | (with_reducible exact change_Check.mono _ _ _ _ _ _ _ _ _ _ _ _ _ _)
   | (with_reducible exact clock_Check.mono _ _)
   | (with_reducible exact LeO.refl _)
   | (with_reducible exact LeO.none _)
   | (with_reducible refine LeO.ite ?_ ?_)
   | (with_reducible refine LeO.bind ?_ (fun _ => ?_))
   | exact causal_ready.mono _ _ _ _ _ _ _ _ _ _ _ _ _ _ _
   | exact change_Check.mono _ _ _ _ _ _ _ _ _ _ _ _ _ _
   | exact clock_Check.mono _ _
   | exact LeO.none _
   | refine LeO.ite ?_ ?_
   | refine LeO.bind ?_ (fun _ => ?_)
end Go.Proofs.Ytnopjjilpgekfaa.PCa
namespace Go.Proofs.Ytnopjjilpgekfaa.PCa
open Go.RowKit Go.Proofs.YtnopjjilpgekfaaW.PrintWords Go.Proofs.YtnopjjilpgekfaaW.PrintLast Go.Proofs.YtnopjjilpgekfaaW.PrintMore
attribute [local go_sem] max2_int min2_int max_two min_two max_three min_three max_four min_four   -- for this text's walks alone
set_option linter.unusedVariables false
set_option linter.unusedSimpArgs false
def topiaryref09_Ready.f (k : Nat) (l0 : List Int) (a1_0 : Int) (a1_1 : Int) (a1_2 : Int) (l1_3 : List Int) (a1_4 : Int) (a1_5 : Int) (a1_6 : Int) (a1_7 : Int) (a1_8 : Int) (a1_9 : Int) (a1_10 : Int) (a1_11 : ByteArray) (a1_12 : ByteArray) : Option (Bool) := (topiaryref02_Check.f k l0).bind fun t428 => (if t428 = 0 then ((topiaryref05_Check.f k a1_0 a1_1 a1_2 l1_3 a1_4 a1_5 a1_6 a1_7 a1_8 a1_9 a1_10 a1_11 a1_12).bind fun t429 => (if t429 = 0 then ((topiaryref09_Ripe.f k l0 a1_0 a1_1 a1_2 l1_3 a1_4 a1_5 a1_6 a1_7 a1_8 a1_9 a1_10 a1_11 a1_12).bind fun t430 => (some t430)) else (some false))) else (some false))
theorem topiaryref09_Ready.mono : ∀ a0 a1 a2 a3 a4 a5 a6 a7 a8 a9 a10 a11 a12 a13 k, LeO (topiaryref09_Ready.f k a0 a1 a2 a3 a4 a5 a6 a7 a8 a9 a10 a11 a12 a13) (topiaryref09_Ready.f (k + 1) a0 a1 a2 a3 a4 a5 a6 a7 a8 a9 a10 a11 a12 a13) := by
 intro a0 a1 a2 a3 a4 a5 a6 a7 a8 a9 a10 a11 a12 a13 k
 unfold topiaryref09_Ready.f
 repeat' first
   | (with_reducible exact topiaryref02_Check.mono _ _)
   | (with_reducible exact topiaryref05_Check.mono _ _ _ _ _ _ _ _ _ _ _ _ _ _)
   | (with_reducible exact topiaryref09_Ripe.mono _ _ _ _ _ _ _ _ _ _ _ _ _ _ _)
   | (with_reducible exact LeO.refl _)
   | (with_reducible exact LeO.none _)
   | (with_reducible refine LeO.ite ?_ ?_)
   | (with_reducible refine LeO.bind ?_ (fun _ => ?_))
   | exact topiaryref02_Check.mono _ _
   | exact topiaryref05_Check.mono _ _ _ _ _ _ _ _ _ _ _ _ _ _
   | exact topiaryref09_Ripe.mono _ _ _ _ _ _ _ _ _ _ _ _ _ _ _
   | exact LeO.none _
   | refine LeO.ite ?_ ?_
   | refine LeO.bind ?_ (fun _ => ?_)
end Go.Proofs.Ytnopjjilpgekfaa.PCa
namespace Go.Proofs.Ytnopjjilpgekfaa.PCa
open Go.RowKit Go.Proofs.YtnopjjilpgekfaaW.PrintWords Go.Proofs.YtnopjjilpgekfaaW.PrintLast Go.Proofs.YtnopjjilpgekfaaW.PrintMore
set_option linter.unusedVariables false
set_option linter.unusedSimpArgs false
def checkX (x : S32) : Int := checkC x.f0.f0 x.f0.f1 x.f1 x.f2 x.f3 x.f4.f0 x.f4.f1 x.f5.f0 x.f5.f1 x.f6.f0 x.f6.f1 x.f7 x.f8
/-- What a right change is. -/
theorem check_ok {x : S32} (h : checkX x = 0) : 1 ≤ x.f1 ∧ x.f1 ≤ x.f0.f0 ∧ x.f0.f0 ≤ 1099511627776 ∧ rightC x.f0.f0 x.f0.f1 = true ∧ chkC x.f2 = 0 ∧ x.f2.length ≤ 64 := by
 unfold checkX checkC at h
 split at h
 ·cases h
 ·split at h
  ·rename_i hr
   split at h
   ·cases h
   ·rename_i hq
    have hm := right_max hr
    by_cases hd : depsC x.f0.f1 x.f1 x.f2 = 0
    ·have hc : chkC x.f2 = 0 := by
      unfold depsC at hd
      split at hd
      ·assumption
      ·exact hd
     refine ⟨by omega, by omega, hm, hr, hc, ?_⟩
     have h2 := hc
     unfold chkC at h2
     split at h2
     ·cases h2
     ·omega
    ·rw [if_neg hd] at h
     exact absurd h hd
  ·cases h
end Go.Proofs.Ytnopjjilpgekfaa.PCa
namespace Go.Proofs.Ytnopjjilpgekfaa.PCa
open Go.RowKit Go.Proofs.YtnopjjilpgekfaaW.PrintWords Go.Proofs.YtnopjjilpgekfaaW.PrintLast Go.Proofs.YtnopjjilpgekfaaW.PrintMore
attribute [local go_sem] max2_int min2_int max_two min_two max_three min_three max_four min_four   -- for this text's walks alone
set_option linter.unusedVariables false
set_option linter.unusedSimpArgs false
attribute [local go_sem high] eqA30
def topiaryref09_before.f (a0_0 : Int) (a0_1 : Int) (a0_2 : Int) (l0_3 : List Int) (a0_4 : Int) (a0_5 : Int) (a0_6 : Int) (a0_7 : Int) (a0_8 : Int) (a0_9 : Int) (a0_10 : Int) (a0_11 : ByteArray) (a0_12 : ByteArray) (a1_0 : Int) (a1_1 : Int) (a1_2 : Int) (l1_3 : List Int) (a1_4 : Int) (a1_5 : Int) (a1_6 : Int) (a1_7 : Int) (a1_8 : Int) (a1_9 : Int) (a1_10 : Int) (a1_11 : ByteArray) (a1_12 : ByteArray) : Option (Bool) := (topiaryref01_Less.f a0_0 a0_1 a1_0 a1_1).bind fun t465 => (if t465 = true then (some true) else (if (a0_0 == a1_0 && (a0_1 == a1_1)) = true then (some (decide (a0_2 < a1_2))) else (some false)))
end Go.Proofs.Ytnopjjilpgekfaa.PCa
namespace Go.Proofs.Ytnopjjilpgekfaa.PCa
open Go.RowKit Go.Proofs.YtnopjjilpgekfaaW.PrintWords Go.Proofs.YtnopjjilpgekfaaW.PrintLast Go.Proofs.YtnopjjilpgekfaaW.PrintMore
set_option linter.unusedVariables false
set_option linter.unusedSimpArgs false
def cmpX (a b : S32) : Int := if cmpC a.f0.f0 a.f0.f1 b.f0.f0 b.f0.f1 = 0 then a.f1 - b.f1 else cmpC a.f0.f0 a.f0.f1 b.f0.f0 b.f0.f1
def befX (a b : S32) : Bool := lessC a.f0.f0 a.f0.f1 b.f0.f0 b.f0.f1 || ((a.f0.f0 == b.f0.f0 && (a.f0.f1 == b.f0.f1)) && decide (a.f1 < b.f1))
theorem compare_is (a b : S32) (h1 : 0 ≤ a.f1 ∧ a.f1 ≤ 1099511627776) (h2 : 0 ≤ b.f1 ∧ b.f1 ≤ 1099511627776) :
  causal_compare.f a.f0.f0 a.f0.f1 a.f1 a.f2 a.f3 a.f4.f0 a.f4.f1 a.f5.f0 a.f5.f1 a.f6.f0 a.f6.f1 a.f7 a.f8 b.f0.f0 b.f0.f1 b.f1 b.f2 b.f3 b.f4.f0 b.f4.f1 b.f5.f0 b.f5.f1 b.f6.f0 b.f6.f1 b.f7 b.f8 = some (cmpX a b) := by
 unfold causal_compare.f cmpX
 rw [ident_Compare_is, Option.bind_some]
 have hw : wrap64 (a.f1 - b.f1) = a.f1 - b.f1 := by rw [← i64_w, IntKind.wrap_i64]; omega
 rw [hw]
 split <;> rfl
theorem cmp_neg (a b : S32) : cmpX a b < 0 ↔ befX a b = true := by
 unfold cmpX befX cmpC
 by_cases h0 : a.f0.f0 = b.f0.f0 ∧ a.f0.f1 = b.f0.f1
 ·have hl : lessC a.f0.f0 a.f0.f1 b.f0.f0 b.f0.f1 = false := by
   rw [lessC, decide_eq_false (by omega : ¬ a.f0.f0 < b.f0.f0), decide_eq_false (by omega : ¬ a.f0.f1 < b.f0.f1), Bool.and_false]
   rfl
  rw [if_pos h0, if_pos rfl, hl, Bool.false_or, beq_iff_eq.2 h0.1, beq_iff_eq.2 h0.2, Bool.true_and, Bool.true_and, decide_eq_true_eq]
  omega
 ·have he : (a.f0.f0 == b.f0.f0 && (a.f0.f1 == b.f0.f1)) = false := by
   refine Bool.eq_false_iff.2 (fun h => h0 ?_)
   simpa using h
  rw [if_neg h0, he, Bool.false_and, Bool.or_false]
  cases lessC a.f0.f0 a.f0.f1 b.f0.f0 b.f0.f1 <;> simp
end Go.Proofs.Ytnopjjilpgekfaa.PCa
namespace Go.Proofs.Ytnopjjilpgekfaa.PCa
open Go.RowKit Go.Proofs.YtnopjjilpgekfaaW.PrintWords Go.Proofs.YtnopjjilpgekfaaW.PrintLast Go.Proofs.YtnopjjilpgekfaaW.PrintMore
attribute [local go_sem] max2_int min2_int max_two min_two max_three min_three max_four min_four   -- for this text's walks alone
set_option linter.unusedVariables false
set_option linter.unusedSimpArgs false
def topiaryref07_Own.l0 : Nat → List (S32) → Int → Int → Int → Option (Int)
 | 0, _, _, _, _ => none
 | k + 1, x0, x1, x2, x7 => if x7 < (x0.length : Int) then (if 0 ≤ x7 then (if ((rd_T32 x0 x7).f0.f1) = x1 then (if ((rd_T32 x0 x7).f1) = x2 then (some x7) else (topiaryref07_Own.l0 k x0 x1 x2 (wrap64 (x7 + 1)))) else (topiaryref07_Own.l0 k x0 x1 x2 (wrap64 (x7 + 1)))) else (none)) else (some (-1))
def topiaryref07_Own.f (k : Nat) (l0 : List (S32)) (a1 : Int) (a2 : Int) : Option (Int) := topiaryref07_Own.l0 k l0 a1 a2 0
theorem topiaryref07_Own.mono_l : ∀ k, (∀ y0 y1 y2 y3, LeO (topiaryref07_Own.l0 k y0 y1 y2 y3) (topiaryref07_Own.l0 (k + 1) y0 y1 y2 y3))
 | 0 => fun _ _ _ _ r h => by simp [topiaryref07_Own.l0] at h
 | k + 1 => by
  have ih0 := topiaryref07_Own.mono_l k
  ·intro y0 y1 y2 y3
   unfold topiaryref07_Own.l0
   repeat' first
   | (with_reducible exact ih0 _ _ _ _)
   | (with_reducible exact LeO.refl _)
   | (with_reducible exact LeO.none _)
   | (with_reducible refine LeO.ite ?_ ?_)
   | (with_reducible refine LeO.bind ?_ (fun _ => ?_))
   | exact ih0 _ _ _ _
   | exact LeO.none _
   | refine LeO.ite ?_ ?_
   | refine LeO.bind ?_ (fun _ => ?_)
theorem topiaryref07_Own.mono : ∀ a0 a1 a2 k, LeO (topiaryref07_Own.f k a0 a1 a2) (topiaryref07_Own.f (k + 1) a0 a1 a2) := by
 intro a0 a1 a2 k
 have ih0 := topiaryref07_Own.mono_l k
 unfold topiaryref07_Own.f
 repeat' first
   | (with_reducible exact ih0 _ _ _ _)
   | (with_reducible exact LeO.refl _)
   | (with_reducible exact LeO.none _)
   | (with_reducible refine LeO.ite ?_ ?_)
   | (with_reducible refine LeO.bind ?_ (fun _ => ?_))
   | exact ih0 _ _ _ _
   | exact LeO.none _
   | refine LeO.ite ?_ ?_
   | refine LeO.bind ?_ (fun _ => ?_)
end Go.Proofs.Ytnopjjilpgekfaa.PCa
namespace Go.Proofs.Ytnopjjilpgekfaa.PCa
open Go.RowKit Go.Proofs.YtnopjjilpgekfaaW.PrintWords Go.Proofs.YtnopjjilpgekfaaW.PrintLast Go.Proofs.YtnopjjilpgekfaaW.PrintMore
attribute [local go_sem] max2_int min2_int max_two min_two max_three min_three max_four min_four   -- for this text's walks alone
set_option linter.unusedVariables false
set_option linter.unusedSimpArgs false
def topiaryref09_next.l0 : Nat → List Int → List (S32) → Int → Option (Int)
 | 0, _, _, _ => none
 | k + 1, x0, x1, x5 => if x5 < (x1.length : Int) then (if 0 ≤ x5 then ((topiaryref09_Ripe.f k x0 ((rd_T32 x1 x5).f0.f0) ((rd_T32 x1 x5).f0.f1) ((rd_T32 x1 x5).f1) ((rd_T32 x1 x5).f2) ((rd_T32 x1 x5).f3) ((rd_T32 x1 x5).f4.f0) ((rd_T32 x1 x5).f4.f1) ((rd_T32 x1 x5).f5.f0) ((rd_T32 x1 x5).f5.f1) ((rd_T32 x1 x5).f6.f0) ((rd_T32 x1 x5).f6.f1) ((rd_T32 x1 x5).f7) ((rd_T32 x1 x5).f8)).bind fun t496 => (if t496 = true then (some x5) else (topiaryref09_next.l0 k x0 x1 (wrap64 (x5 + 1))))) else (none)) else (some (-1))
def topiaryref09_next.f (k : Nat) (l0 : List Int) (l1 : List (S32)) : Option (Int) := topiaryref09_next.l0 k l0 l1 0
theorem topiaryref09_next.mono_l : ∀ k, (∀ y0 y1 y2, LeO (topiaryref09_next.l0 k y0 y1 y2) (topiaryref09_next.l0 (k + 1) y0 y1 y2))
 | 0 => fun _ _ _ r h => by simp [topiaryref09_next.l0] at h
 | k + 1 => by
  have ih0 := topiaryref09_next.mono_l k
  ·intro y0 y1 y2
   unfold topiaryref09_next.l0
   repeat' first
   | (with_reducible exact ih0 _ _ _)
   | (with_reducible exact topiaryref09_Ripe.mono _ _ _ _ _ _ _ _ _ _ _ _ _ _ _)
   | (with_reducible exact LeO.refl _)
   | (with_reducible exact LeO.none _)
   | (with_reducible refine LeO.ite ?_ ?_)
   | (with_reducible refine LeO.bind ?_ (fun _ => ?_))
   | exact ih0 _ _ _
   | exact topiaryref09_Ripe.mono _ _ _ _ _ _ _ _ _ _ _ _ _ _ _
   | exact LeO.none _
   | refine LeO.ite ?_ ?_
   | refine LeO.bind ?_ (fun _ => ?_)
theorem topiaryref09_next.mono : ∀ a0 a1 k, LeO (topiaryref09_next.f k a0 a1) (topiaryref09_next.f (k + 1) a0 a1) := by
 intro a0 a1 k
 have ih0 := topiaryref09_next.mono_l k
 unfold topiaryref09_next.f
 repeat' first
   | (with_reducible exact ih0 _ _ _)
   | (with_reducible exact topiaryref09_Ripe.mono _ _ _ _ _ _ _ _ _ _ _ _ _ _ _)
   | (with_reducible exact LeO.refl _)
   | (with_reducible exact LeO.none _)
   | (with_reducible refine LeO.ite ?_ ?_)
   | (with_reducible refine LeO.bind ?_ (fun _ => ?_))
   | exact ih0 _ _ _
   | exact topiaryref09_Ripe.mono _ _ _ _ _ _ _ _ _ _ _ _ _ _ _
   | exact LeO.none _
   | refine LeO.ite ?_ ?_
   | refine LeO.bind ?_ (fun _ => ?_)
end Go.Proofs.Ytnopjjilpgekfaa.PCa
namespace Go.Proofs.Ytnopjjilpgekfaa.PCa
open Go.RowKit Go.Proofs.YtnopjjilpgekfaaW.PrintWords Go.Proofs.YtnopjjilpgekfaaW.PrintLast Go.Proofs.YtnopjjilpgekfaaW.PrintMore
attribute [local go_sem] max2_int min2_int max_two min_two max_three min_three max_four min_four   -- for this text's walks alone
set_option linter.unusedVariables false
set_option linter.unusedSimpArgs false
def topiaryref09_without.f (l0 : List (S32)) (a1 : Int) : Option ((List (S32))) := (some (([] : List (S32)) : List (S32))).bind fun y497 => (if 0 ≤ a1 then (if a1 ≤ (l0.length : Int) then ((some (l0.take (a1 : Int).toNat : List (S32))).bind fun y500 => (if y497.length + y500.length < 1034834473200 then ((some (y497 ++ y500 : List (S32))).bind fun y505 => (if 0 ≤ (wrap64 (a1 + 1)) then (if (wrap64 (a1 + 1)) ≤ (l0.length : Int) then ((some (l0.drop ((wrap64 (a1 + 1)) : Int).toNat : List (S32))).bind fun y508 => (if y505.length + y508.length < 1034834473200 then (some (y505 ++ y508)) else (none))) else (none)) else (none))) else (none))) else (none)) else (none))
end Go.Proofs.Ytnopjjilpgekfaa.PCa
namespace Go.Proofs.Ytnopjjilpgekfaa.PCa
open Go.RowKit Go.Proofs.YtnopjjilpgekfaaW.PrintWords Go.Proofs.YtnopjjilpgekfaaW.PrintLast Go.Proofs.YtnopjjilpgekfaaW.PrintMore
attribute [local go_sem] max2_int min2_int max_two min_two max_three min_three max_four min_four   -- for this text's walks alone
set_option linter.unusedVariables false
set_option linter.unusedSimpArgs false
def topiaryref07_Within.f (a0_0 : Int) (a0_1 : Int) (a0_2 : Int) (l0_3 : List Int) (a0_4 : Int) (a0_5 : Int) (a0_6 : Int) (a0_7 : Int) (a0_8 : Int) (a0_9 : Int) (a0_10 : Int) (a0_11 : ByteArray) (a0_12 : ByteArray) (l1 : List Int) : Option (Bool) := (topiaryref02_At.f l1 a0_1).bind fun t166 => (some (decide (a0_2 ≤ t166)))
end Go.Proofs.Ytnopjjilpgekfaa.PCa
namespace Go.Proofs.Ytnopjjilpgekfaa.PCa
open Go.RowKit Go.Proofs.YtnopjjilpgekfaaW.PrintWords Go.Proofs.YtnopjjilpgekfaaW.PrintLast Go.Proofs.YtnopjjilpgekfaaW.PrintMore
attribute [local go_sem] max2_int min2_int max_two min_two max_three min_three max_four min_four   -- for this text's walks alone
set_option linter.unusedVariables false
set_option linter.unusedSimpArgs false
def topiaryref09_Stale.l0 : Nat → List Int → List (S32) → Int → Int → List (S32) → Option (Int × (List (S32)) × Int)
 | 0, _, _, _, _, _ => none
 | k + 1, x1, x6, x7, x565000, x565001 => if x7 < (x565001.length : Int) then (if 0 ≤ x7 then ((topiaryref07_Within.f ((rd_T32 x565001 x7).f0.f0) ((rd_T32 x565001 x7).f0.f1) ((rd_T32 x565001 x7).f1) ((rd_T32 x565001 x7).f2) ((rd_T32 x565001 x7).f3) ((rd_T32 x565001 x7).f4.f0) ((rd_T32 x565001 x7).f4.f1) ((rd_T32 x565001 x7).f5.f0) ((rd_T32 x565001 x7).f5.f1) ((rd_T32 x565001 x7).f6.f0) ((rd_T32 x565001 x7).f6.f1) ((rd_T32 x565001 x7).f7) ((rd_T32 x565001 x7).f8) x1).bind fun t571 => (if t571 = true then (topiaryref09_Stale.l0 k x1 x6 (wrap64 (x7 + 1)) x565000 x565001) else (if x6.length < 1034834473200 then (topiaryref09_Stale.l0 k x1 (x6 ++ [(⟨(⟨(rd_T32 x565001 x7).f0.f0, (rd_T32 x565001 x7).f0.f1⟩ : S30), (rd_T32 x565001 x7).f1, (rd_T32 x565001 x7).f2, (rd_T32 x565001 x7).f3, (⟨(rd_T32 x565001 x7).f4.f0, (rd_T32 x565001 x7).f4.f1⟩ : S30), (⟨(rd_T32 x565001 x7).f5.f0, (rd_T32 x565001 x7).f5.f1⟩ : S30), (⟨(rd_T32 x565001 x7).f6.f0, (rd_T32 x565001 x7).f6.f1⟩ : S30), (rd_T32 x565001 x7).f7, (rd_T32 x565001 x7).f8⟩ : S32)]) (wrap64 (x7 + 1)) x565000 x565001) else (none)))) else (none)) else (some (x565000, x6, wrap64 ((x565001.length : Int) - (x6.length : Int))))
def topiaryref09_Stale.f (k : Nat) (a0_0 : Int) (l0_1 : List (S32)) (l1 : List Int) : Option (Int × (List (S32)) × Int) := (topiaryref02_Check.f k l1).bind fun t566 => (if t566 = 0 then (topiaryref09_Stale.l0 k l1 (([] : List (S32))) 0 a0_0 l0_1) else (some (a0_0, l0_1, 0)))
theorem topiaryref09_Stale.mono_l : ∀ k, (∀ y0 y1 y2 y3 y4, LeO (topiaryref09_Stale.l0 k y0 y1 y2 y3 y4) (topiaryref09_Stale.l0 (k + 1) y0 y1 y2 y3 y4))
 | 0 => fun _ _ _ _ _ r h => by simp [topiaryref09_Stale.l0] at h
 | k + 1 => by
  have ih0 := topiaryref09_Stale.mono_l k
  ·intro y0 y1 y2 y3 y4
   unfold topiaryref09_Stale.l0
   repeat' first
   | (with_reducible exact ih0 _ _ _ _ _)
   | (with_reducible exact topiaryref02_Check.mono _ _)
   | (with_reducible exact LeO.refl _)
   | (with_reducible exact LeO.none _)
   | (with_reducible refine LeO.ite ?_ ?_)
   | (with_reducible refine LeO.bind ?_ (fun _ => ?_))
   | exact ih0 _ _ _ _ _
   | exact topiaryref02_Check.mono _ _
   | exact LeO.none _
   | refine LeO.ite ?_ ?_
   | refine LeO.bind ?_ (fun _ => ?_)
theorem topiaryref09_Stale.mono : ∀ a0 a1 a2 k, LeO (topiaryref09_Stale.f k a0 a1 a2) (topiaryref09_Stale.f (k + 1) a0 a1 a2) := by
 intro a0 a1 a2 k
 have ih0 := topiaryref09_Stale.mono_l k
 unfold topiaryref09_Stale.f
 repeat' first
   | (with_reducible exact ih0 _ _ _ _ _)
   | (with_reducible exact topiaryref02_Check.mono _ _)
   | (with_reducible exact LeO.refl _)
   | (with_reducible exact LeO.none _)
   | (with_reducible refine LeO.ite ?_ ?_)
   | (with_reducible refine LeO.bind ?_ (fun _ => ?_))
   | exact ih0 _ _ _ _ _
   | exact topiaryref02_Check.mono _ _
   | exact LeO.none _
   | refine LeO.ite ?_ ?_
   | refine LeO.bind ?_ (fun _ => ?_)
end Go.Proofs.Ytnopjjilpgekfaa.PCa
namespace Go.Proofs.Ytnopjjilpgekfaa.PCa
open Go.RowKit Go.Proofs.YtnopjjilpgekfaaW.PrintWords Go.Proofs.YtnopjjilpgekfaaW.PrintLast Go.Proofs.YtnopjjilpgekfaaW.PrintMore
set_option linter.unusedVariables false
set_option linter.unusedSimpArgs false
def withinX (known : List Int) (x : S32) : Bool := decide (x.f1 ≤ atC known x.f0.f1)
end Go.Proofs.Ytnopjjilpgekfaa.PCa
namespace Go.Proofs.Ytnopjjilpgekfaa.PCa
open Go.RowKit Go.Proofs.YtnopjjilpgekfaaW.PrintWords Go.Proofs.YtnopjjilpgekfaaW.PrintLast Go.Proofs.YtnopjjilpgekfaaW.PrintMore
attribute [local go_sem] max2_int min2_int max_two min_two max_three min_three max_four min_four   -- for this text's walks alone
set_option linter.unusedVariables false
set_option linter.unusedSimpArgs false
def topiaryref09_put.l0 : Nat → List (S32) → List (S32) → Bool → Int → Int → Int → Int → List Int → Int → Int → Int → Int → Int → Int → Int → ByteArray → ByteArray → Option ((List (S32)))
 | 0, _, _, _, _, _, _, _, _, _, _, _, _, _, _, _, _, _ => none
 | k + 1, x0, x5, x6, x7, x467000, x467001, x467002, x467003, x467004, x467005, x467006, x467007, x467008, x467009, x467010, x467011, x467012 => if x7 < (x0.length : Int) then (if x6 = true then (if 0 ≤ x7 then (if x5.length < 1034834473200 then (topiaryref09_put.l0 k x0 (x5 ++ [(⟨(⟨(rd_T32 x0 x7).f0.f0, (rd_T32 x0 x7).f0.f1⟩ : S30), (rd_T32 x0 x7).f1, (rd_T32 x0 x7).f2, (rd_T32 x0 x7).f3, (⟨(rd_T32 x0 x7).f4.f0, (rd_T32 x0 x7).f4.f1⟩ : S30), (⟨(rd_T32 x0 x7).f5.f0, (rd_T32 x0 x7).f5.f1⟩ : S30), (⟨(rd_T32 x0 x7).f6.f0, (rd_T32 x0 x7).f6.f1⟩ : S30), (rd_T32 x0 x7).f7, (rd_T32 x0 x7).f8⟩ : S32)]) x6 (wrap64 (x7 + 1)) x467000 x467001 x467002 x467003 x467004 x467005 x467006 x467007 x467008 x467009 x467010 x467011 x467012) else (none)) else (none)) else (if 0 ≤ x7 then ((topiaryref09_before.f x467000 x467001 x467002 x467003 x467004 x467005 x467006 x467007 x467008 x467009 x467010 x467011 x467012 ((rd_T32 x0 x7).f0.f0) ((rd_T32 x0 x7).f0.f1) ((rd_T32 x0 x7).f1) ((rd_T32 x0 x7).f2) ((rd_T32 x0 x7).f3) ((rd_T32 x0 x7).f4.f0) ((rd_T32 x0 x7).f4.f1) ((rd_T32 x0 x7).f5.f0) ((rd_T32 x0 x7).f5.f1) ((rd_T32 x0 x7).f6.f0) ((rd_T32 x0 x7).f6.f1) ((rd_T32 x0 x7).f7) ((rd_T32 x0 x7).f8)).bind fun t475 => (if t475 = true then (if x5.length < 1034834473200 then ((some (x5 ++ [(⟨(⟨x467000, x467001⟩ : S30), x467002, x467003, x467004, (⟨x467005, x467006⟩ : S30), (⟨x467007, x467008⟩ : S30), (⟨x467009, x467010⟩ : S30), x467011, x467012⟩ : S32)] : List (S32))).bind fun y476 => (if y476.length < 1034834473200 then (topiaryref09_put.l0 k x0 (y476 ++ [(⟨(⟨(rd_T32 x0 x7).f0.f0, (rd_T32 x0 x7).f0.f1⟩ : S30), (rd_T32 x0 x7).f1, (rd_T32 x0 x7).f2, (rd_T32 x0 x7).f3, (⟨(rd_T32 x0 x7).f4.f0, (rd_T32 x0 x7).f4.f1⟩ : S30), (⟨(rd_T32 x0 x7).f5.f0, (rd_T32 x0 x7).f5.f1⟩ : S30), (⟨(rd_T32 x0 x7).f6.f0, (rd_T32 x0 x7).f6.f1⟩ : S30), (rd_T32 x0 x7).f7, (rd_T32 x0 x7).f8⟩ : S32)]) true (wrap64 (x7 + 1)) x467000 x467001 x467002 x467003 x467004 x467005 x467006 x467007 x467008 x467009 x467010 x467011 x467012) else (none))) else (none)) else (if x5.length < 1034834473200 then (topiaryref09_put.l0 k x0 (x5 ++ [(⟨(⟨(rd_T32 x0 x7).f0.f0, (rd_T32 x0 x7).f0.f1⟩ : S30), (rd_T32 x0 x7).f1, (rd_T32 x0 x7).f2, (rd_T32 x0 x7).f3, (⟨(rd_T32 x0 x7).f4.f0, (rd_T32 x0 x7).f4.f1⟩ : S30), (⟨(rd_T32 x0 x7).f5.f0, (rd_T32 x0 x7).f5.f1⟩ : S30), (⟨(rd_T32 x0 x7).f6.f0, (rd_T32 x0 x7).f6.f1⟩ : S30), (rd_T32 x0 x7).f7, (rd_T32 x0 x7).f8⟩ : S32)]) x6 (wrap64 (x7 + 1)) x467000 x467001 x467002 x467003 x467004 x467005 x467006 x467007 x467008 x467009 x467010 x467011 x467012) else (none)))) else (none))) else (if x6 = true then (some x5) else (if x5.length < 1034834473200 then (some (x5 ++ [(⟨(⟨x467000, x467001⟩ : S30), x467002, x467003, x467004, (⟨x467005, x467006⟩ : S30), (⟨x467007, x467008⟩ : S30), (⟨x467009, x467010⟩ : S30), x467011, x467012⟩ : S32)])) else (none)))
def topiaryref09_put.f (k : Nat) (l0 : List (S32)) (a1_0 : Int) (a1_1 : Int) (a1_2 : Int) (l1_3 : List Int) (a1_4 : Int) (a1_5 : Int) (a1_6 : Int) (a1_7 : Int) (a1_8 : Int) (a1_9 : Int) (a1_10 : Int) (a1_11 : ByteArray) (a1_12 : ByteArray) : Option ((List (S32))) := topiaryref09_put.l0 k l0 (([] : List (S32))) false 0 a1_0 a1_1 a1_2 l1_3 a1_4 a1_5 a1_6 a1_7 a1_8 a1_9 a1_10 a1_11 a1_12
theorem topiaryref09_put.mono_l : ∀ k, (∀ y0 y1 y2 y3 y4 y5 y6 y7 y8 y9 y10 y11 y12 y13 y14 y15 y16, LeO (topiaryref09_put.l0 k y0 y1 y2 y3 y4 y5 y6 y7 y8 y9 y10 y11 y12 y13 y14 y15 y16) (topiaryref09_put.l0 (k + 1) y0 y1 y2 y3 y4 y5 y6 y7 y8 y9 y10 y11 y12 y13 y14 y15 y16))
 | 0 => fun _ _ _ _ _ _ _ _ _ _ _ _ _ _ _ _ _ r h => by simp [topiaryref09_put.l0] at h
 | k + 1 => by
  have ih0 := topiaryref09_put.mono_l k
  ·intro y0 y1 y2 y3 y4 y5 y6 y7 y8 y9 y10 y11 y12 y13 y14 y15 y16
   unfold topiaryref09_put.l0
   repeat' first
   | (with_reducible exact ih0 _ _ _ _ _ _ _ _ _ _ _ _ _ _ _ _ _)
   | (with_reducible exact LeO.refl _)
   | (with_reducible exact LeO.none _)
   | (with_reducible refine LeO.ite ?_ ?_)
   | (with_reducible refine LeO.bind ?_ (fun _ => ?_))
   | exact ih0 _ _ _ _ _ _ _ _ _ _ _ _ _ _ _ _ _
   | exact LeO.none _
   | refine LeO.ite ?_ ?_
   | refine LeO.bind ?_ (fun _ => ?_)
theorem topiaryref09_put.mono : ∀ a0 a1 a2 a3 a4 a5 a6 a7 a8 a9 a10 a11 a12 a13 k, LeO (topiaryref09_put.f k a0 a1 a2 a3 a4 a5 a6 a7 a8 a9 a10 a11 a12 a13) (topiaryref09_put.f (k + 1) a0 a1 a2 a3 a4 a5 a6 a7 a8 a9 a10 a11 a12 a13) := by
 intro a0 a1 a2 a3 a4 a5 a6 a7 a8 a9 a10 a11 a12 a13 k
 have ih0 := topiaryref09_put.mono_l k
 unfold topiaryref09_put.f
 repeat' first
   | (with_reducible exact ih0 _ _ _ _ _ _ _ _ _ _ _ _ _ _ _ _ _)
   | (with_reducible exact LeO.refl _)
   | (with_reducible exact LeO.none _)
   | (with_reducible refine LeO.ite ?_ ?_)
   | (with_reducible refine LeO.bind ?_ (fun _ => ?_))
   | exact ih0 _ _ _ _ _ _ _ _ _ _ _ _ _ _ _ _ _
   | exact LeO.none _
   | refine LeO.ite ?_ ?_
   | refine LeO.bind ?_ (fun _ => ?_)
end Go.Proofs.Ytnopjjilpgekfaa.PCa
namespace Go.Proofs.Ytnopjjilpgekfaa.PCa
open Go.RowKit Go.Proofs.YtnopjjilpgekfaaW.PrintWords Go.Proofs.YtnopjjilpgekfaaW.PrintLast Go.Proofs.YtnopjjilpgekfaaW.PrintMore
set_option linter.unusedVariables false
set_option linter.unusedSimpArgs false
/-- A change among those that are held: ahead of the first that it is ahead of. -/
def putC (c : S32) : List S32 → List S32
 | [] => [c]
 | x :: t => if befX c x = true then c :: x :: t else x :: putC c t
end Go.Proofs.Ytnopjjilpgekfaa.PCa
namespace Go.Proofs.Ytnopjjilpgekfaa.PCa
open Go.RowKit Go.Proofs.YtnopjjilpgekfaaW.PrintWords Go.Proofs.YtnopjjilpgekfaaW.PrintLast Go.Proofs.YtnopjjilpgekfaaW.PrintMore
set_option linter.unusedVariables false
set_option linter.unusedSimpArgs false
/-- The place of the first that is ready; -1: none is. -/
def nextI (known : List Int) : List S32 → Nat → Int
 | [], _ => -1
 | x :: t, i => if ripeC known x = true then (i : Int) else nextI known t (i + 1)
end Go.Proofs.Ytnopjjilpgekfaa.PCa
namespace Go.Proofs.Ytnopjjilpgekfaa.PCa
open Go.RowKit Go.Proofs.YtnopjjilpgekfaaW.PrintWords Go.Proofs.YtnopjjilpgekfaaW.PrintLast Go.Proofs.YtnopjjilpgekfaaW.PrintMore
attribute [local go_sem] max2_int min2_int max_two min_two max_three min_three max_four min_four   -- for this text's walks alone
set_option linter.unusedVariables false
set_option linter.unusedSimpArgs false
def causal_tick.f (k : Nat) (l0 : List Int) (a1_0 : Int) (a1_1 : Int) (a1_2 : Int) (l1_3 : List Int) (a1_4 : Int) (a1_5 : Int) (a1_6 : Int) (a1_7 : Int) (a1_8 : Int) (a1_9 : Int) (a1_10 : Int) (a1_11 : ByteArray) (a1_12 : ByteArray) : Option (List Int) := (clock_Tick.f k l0 a1_1).bind fun bt206 => (some bt206.1)
theorem causal_tick.mono : ∀ a0 a1 a2 a3 a4 a5 a6 a7 a8 a9 a10 a11 a12 a13 k, LeO (causal_tick.f k a0 a1 a2 a3 a4 a5 a6 a7 a8 a9 a10 a11 a12 a13) (causal_tick.f (k + 1) a0 a1 a2 a3 a4 a5 a6 a7 a8 a9 a10 a11 a12 a13) := by
 intro a0 a1 a2 a3 a4 a5 a6 a7 a8 a9 a10 a11 a12 a13 k
 unfold causal_tick.f
 repeat' first
   | (with_reducible exact clock_Tick.mono _ _ _)
   | (with_reducible exact LeO.refl _)
   | (with_reducible exact LeO.none _)
   | (with_reducible refine LeO.ite ?_ ?_)
   | (with_reducible refine LeO.bind ?_ (fun _ => ?_))
   | exact clock_Tick.mono _ _ _
   | exact LeO.none _
   | refine LeO.ite ?_ ?_
   | refine LeO.bind ?_ (fun _ => ?_)
set_option maxHeartbeats 8000000 in
set_option maxRecDepth 100000 in
theorem causal_tick.calls (k : Nat) (A0 : Option Addr) (c0 : Nat) (l0 : List Int) (a1_0 : Int) (a1_1 : Int) (a1_2 : Int) (A1_3 : Option Addr) (c1_3 : Nat) (l1_3 : List Int) (a1_4 : Int) (a1_5 : Int) (a1_6 : Int) (a1_7 : Int) (a1_8 : Int) (a1_9 : Int) (a1_10 : Int) (a1_11 : ByteArray) (a1_12 : ByteArray) (r : List Int) (w : World) (hr0 : Kd.C (Kd.int .i64) w A0 l0.length l0) (hc0 : l0.length ≤ c0) (hr1_3 : Kd.C (Kd.int .i64) w A1_3 l1_3.length l1_3) (hc1_3 : l1_3.length ≤ c1_3) (h : causal_tick.f k l0 a1_0 a1_1 a1_2 l1_3 a1_4 a1_5 a1_6 a1_7 a1_8 a1_9 a1_10 a1_11 a1_12 = some r) :
  Calls Try.prog 66 #[.slice A0 l0.length c0, .agg #[.int .i64 a1_0, .int .i64 a1_1, .int .i64 a1_2, .slice A1_3 l1_3.length c1_3, .int .i64 a1_4, .int .i64 a1_5, .int .i64 a1_6, .int .i64 a1_7, .int .i64 a1_8, .int .i64 a1_9, .int .i64 a1_10, .string a1_11, .string a1_12]] w fun e w' => ∃ v0_ : Value, e = .returned (v0_) ∧ Kd.R (Kd.int .i64) 3 w' w.heap.size (fun _ => True) v0_ r ∧ Below w.heap.size w w' := by
 have hu32 := Try.underlying32
 have HR0 := Aside0.mk hr0
 have HC0 := Aside0.mk hc0
 clear hr0 hc0
 have HR1_3 := Aside0.mk hr1_3
 have HC1_3 := Aside0.mk hc1_3
 clear hr1_3 hc1_3
 have HB := Aside0.mk (Below.refl w.heap.size w)
 have H : ((clock_Tick.f k l0 a1_1).bind fun bt206 => (some bt206.1)) = some r := h
 clear h
 replace H := Option.bind_eq_some_iff.mp H
 obtain ⟨⟨t206, t207⟩, A30, H⟩ := H
 replace H : (some t206) = some r := H
 have A3 := Aside0.mk A30
 clear A30
 obtain rfl := Option.some.inj H
 go_enter Try.func66, Try.ntmps66
 go_wp2_with (first | ((with_reducible refine gate_dst (N := 3) rfl ?_); refine box_event ?hg (N := 3) ?hd (cs := #[.int .i64 a1_0, .int .i64 a1_1, .int .i64 a1_2, .slice A1_3 l1_3.length c1_3, .int .i64 a1_4, .int .i64 a1_5, .int .i64 a1_6, .int .i64 a1_7, .int .i64 a1_8, .int .i64 a1_9, .int .i64 a1_10, .string a1_11, .string a1_12]) (t := 32) ?hr ?_; (case hd => rfl); (case hg => rfl); (case hr => first | (go_simp; done) | (go_simp; rfl)); intro gb205 hg w4 hbox hb; have n0_ := Aside0.mk (below_step (by repeat (first | (with_reducible first | exact HB.out | apply below_alloc | apply pw_below_drewN | apply below_drew1) | exact HB.out)) hb); have n1_ := Aside0.mk (hbox); have n2_ := Aside0.mk ((by rw [hg]; exact (below_size (by repeat (first | (with_reducible first | exact HB.out | apply below_alloc | apply pw_below_drewN | apply below_drew1) | exact HB.out))) : w.heap.size ≤ gb205)); have n3_ := Aside0.mk ((by rw [hg]; exact (below_size (by repeat (first | (with_reducible first | exact HB.out | apply below_alloc | apply pw_below_drewN | apply below_drew1) | exact HB.out))) : w.heap.size ≤ gb205)); clear HB; have HB := n0_; have BK205 := n1_; have GW205 := n2_; have GE205 := n3_; clear n0_ n1_ n2_ n3_; clear hb hbox hg; obtain ⟨hcz5_0, hcz5_1, hcz5_2, hcz5_3, hcz5_4, hcz5_5, hcz5_6, hcz5_7, hcz5_8, hcz5_9, hcz5_10, hcz5_11, hcz5_12⟩ := cells13 BK205.out; obtain ⟨hfz5_0, hfz5_1, hfz5_2, hfz5_3, hfz5_4, hfz5_5, hfz5_6, hfz5_7, hfz5_8, hfz5_9, hfz5_10, hfz5_11, hfz5_12⟩ := froz13 BK205.out) | ((with_reducible refine gate_callee (f := 80) rfl ?_); refine goesL_ (some 12) rfl rfl Try.func80 (by kernel_rfl) rfl #[.slice A0 l0.length c0, .int .i64 a1_1] rfl (by (try simp only [List.map_toArray, List.map_cons, List.map_nil]); first | done | rfl | (simp only [List.length_drop, List.length_take]; rfl)) ?_; (with_reducible refine (clock_Tick.calls k _ _ l0 a1_1 t206 t207 _ ?side1 ?side2 A3.out).mono ?_); (case side1 => repeat (first | exact (Kd.C_below HR0.out HB.out) | (with_reducible refine Kd.C_alloc ?_ _) | (with_reducible refine Kd.C_drewN ?_ _) | (with_reducible refine Kd.C_drew ?_))); (case side2 => exact HC0.out); rintro e w6 ⟨v208, rfl, ho0, hb⟩; refine ⟨_, rfl, ?_⟩; have n0_ := Aside0.mk (Kd.R_lower ho0 (below_size (by repeat (first | (with_reducible first | exact HB.out | apply below_alloc | apply pw_below_drewN | apply below_drew1 | refine below_set ?_ GE205.out) | exact HB.out)))); have n1_ := Aside0.mk (blk_below (g := gb205) (o := .cells #[.int .i64 a1_0, .int .i64 a1_1, .int .i64 a1_2, .slice A1_3 l1_3.length c1_3, .int .i64 a1_4, .int .i64 a1_5, .int .i64 a1_6, .int .i64 a1_7, .int .i64 a1_8, .int .i64 a1_9, .int .i64 a1_10, .string a1_11, .string a1_12] 32 (0, 0)) (by (with_reducible repeat (first | refine blk_drewN ?_ _ | refine blk_drew ?_ | refine blk_alloc ?_ _)); exact BK205.out) hb); have n2_ := Aside0.mk (below_step (by repeat (first | (with_reducible first | exact HB.out | apply below_alloc | apply pw_below_drewN | apply below_drew1 | refine below_set ?_ GE205.out) | exact HB.out)) hb); clear BK205; clear HB; have HO209 := n0_; have BK205 := n1_; have HB := n2_; clear n0_ n1_ n2_; (try clear hb); (try clear hb2); (try clear hk); (try clear hi); (try clear ho0)))
 go_ret
 exact ⟨_, by first | rfl | (simp [errW_none, errW_some] <;> rfl) | (simp [*, errW_none, errW_some] <;> rfl), by (with_reducible repeat (first | apply Kd.R_alloc | apply Kd.R_drewN | apply Kd.R_drew)); exact HO209.out, by repeat (first | (with_reducible first | exact HB.out | apply below_alloc | apply pw_below_drewN | apply below_drew1 | refine below_set ?_ GE205.out) | exact HB.out)⟩
end Go.Proofs.Ytnopjjilpgekfaa.PCa
namespace Go.Proofs.Ytnopjjilpgekfaa.PCa
open Go.RowKit Go.Proofs.YtnopjjilpgekfaaW.PrintWords Go.Proofs.YtnopjjilpgekfaaW.PrintLast Go.Proofs.YtnopjjilpgekfaaW.PrintMore
set_option linter.unusedVariables false
set_option linter.unusedSimpArgs false
theorem badN_false {n : Int} (h0 : 0 ≤ n) (h1 : n ≤ 1099511627776) : badN n = false := by
 unfold badN
 rw [decide_eq_false (by omega), decide_eq_false (by omega)]
 rfl
theorem chk_zero {l : List Int} (hl : l.length ≤ 64) (h : ∀ n ∈ l, 0 ≤ n ∧ n ≤ 1099511627776) : chkC l = 0 := by
 unfold chkC
 rw [if_neg (by omega), if_neg]
 rw [Bool.not_eq_true, List.any_eq_false]
 intro n hn
 rw [badN_false (h n hn).1 (h n hn).2]
 decide
theorem chk_mem {l : List Int} (h : chkC l = 0) : ∀ n ∈ l, 0 ≤ n ∧ n ≤ 1099511627776 := by
 intro n hn
 obtain ⟨i, hi, rfl⟩ := List.mem_iff_getElem.1 hn
 have := chk_rd h (i : Int)
 unfold atC at this
 rw [if_neg (by omega)] at this
 unfold rd at this
 simpa [List.getD_eq_getElem?_getD, hi] using this
theorem tick_chk (l : List Int) (r : Int) : chkC (tickC l r).1 = 0 := by
 unfold tickC
 by_cases h : chkC l = 0
 ·rw [if_pos h]
  by_cases h2 : r < 0 ∨ 64 ≤ r
  ·rw [if_pos h2]; rfl
  ·rw [if_neg h2]
   by_cases h3 : atC l r = 1099511627776
   ·rw [if_pos h3]; rfl
   ·rw [if_neg h3]
    have hl := chk_len h
    have hrow : (clock_Tick.row l r).length ≤ 64 := by
     have := clock_Tick.row_len (l := l) (r := r) (by omega)
     omega
    have hmem : ∀ n ∈ clock_Tick.row l r, 0 ≤ n ∧ n ≤ 1099511627776 := by
     intro n hn
     unfold clock_Tick.row at hn
     rcases List.mem_append.1 hn with hn | hn
     ·exact chk_mem h n hn
     ·rw [List.eq_of_mem_replicate hn]; omega
    have hat := chk_rd h r
    refine chk_zero ?_ ?_
    ·refine Nat.le_trans (List.length_take_le _ _) ?_
     refine Nat.le_trans (trimN_le _ _) ?_
     unfold clock_Tick.bump
     rw [List.length_set]
     exact hrow
    ·intro n hn
     have hn2 := List.mem_of_mem_take hn
     unfold clock_Tick.bump at hn2
     rcases List.mem_or_eq_of_mem_set hn2 with hn3 | hn3
     ·exact hmem n hn3
     ·rw [row_rd (by omega)] at hn3
      omega
 ·rw [if_neg h]; rfl
theorem causal_tick_is (l : List Int) (x : S32) (k : Nat) (hk : 300 < k) : causal_tick.f k l x.f0.f0 x.f0.f1 x.f1 x.f2 x.f3 x.f4.f0 x.f4.f1 x.f5.f0 x.f5.f1 x.f6.f0 x.f6.f1 x.f7 x.f8 = some (tickC l x.f0.f1).1 := by
 unfold causal_tick.f
 rw [clock_Tick_is l _ k hk, Option.bind_some]
/-- What comes out, and what is left. -/
def relF : Nat → List Int → List S32 → List S32 → List S32 × List S32
 | 0, _, out, left => (out, left)
 | n + 1, now, out, left => if 0 ≤ nextI now left 0 then relF n (tickC now (rd_T32 left (nextI now left 0)).f0.f1).1 (out ++ [rd_T32 left (nextI now left 0)]) (left.eraseIdx (nextI now left 0).toNat) else (out, left)
theorem next_none (now : List Int) : ∀ (l : List S32) (i : Nat), (∀ x ∈ l, ripeC now x = false) → nextI now l i = -1
 | [], _, _ => rfl
 | x :: t, i, h => by
  rw [nextI, h x List.mem_cons_self, if_neg (by decide)]
  exact next_none now t (i + 1) (fun y hy => h y (List.mem_cons_of_mem _ hy))
theorem next_at (now : List Int) : ∀ (l : List S32) (i j : Nat) (x : S32), l[j]? = some x → ripeC now x = true → (∀ (m : Nat) (y : S32), m < j → l[m]? = some y → ripeC now y = false) → nextI now l i = ((i + j : Nat) : Int)
 | [], _, _, _, h, _, _ => by cases h
 | x :: t, i, j, y, h, hr, hb => by
  cases j with
  | zero =>
   injection h with h
   subst h
   rw [nextI, if_pos hr]
   rfl
  | succ j =>
   rw [nextI, hb 0 x (Nat.succ_pos _) rfl, if_neg (by decide), next_at now t (i + 1) j y h hr (fun m y hm hy => hb (m + 1) y (Nat.succ_lt_succ hm) hy)]
   congr 1
   omega
theorem relF_none {now : List Int} {out left : List S32} (h : ∀ x ∈ left, ripeC now x = false) : relF left.length now out left = (out, left) := by
 cases hl : left.length with
 | zero => rfl
 | succ n => rw [relF, next_none now left 0 h, if_neg (by decide)]
theorem rd32_at {l : List S32} {j : Nat} (h : j < l.length) : l[j]? = some (rd_T32 l (j : Int)) := by
 rw [List.getElem?_eq_getElem h, rd_T32, Int.toNat_natCast, List.getD_eq_getElem?_getD, List.getElem?_eq_getElem h, Option.getD_some]
theorem relF_next {now : List Int} {out left : List S32} {j : Nat} (hj : j < left.length) (hr : ripeC now (rd_T32 left (j : Int)) = true) (hb : ∀ m, m < j → ripeC now (rd_T32 left (m : Int)) = false) :
  relF left.length now out left = relF (left.eraseIdx j).length (tickC now (rd_T32 left (j : Int)).f0.f1).1 (out ++ [rd_T32 left (j : Int)]) (left.eraseIdx j) := by
 have hn := next_at now left 0 j _ (rd32_at hj) hr (fun m y hm hy => by
  have h1 := hb m hm
  rw [rd32_at (by omega)] at hy
  injection hy with hy
  rw [← hy]; exact h1)
 rw [Nat.zero_add] at hn
 obtain ⟨n, hl⟩ : ∃ n, left.length = n + 1 := ⟨left.length - 1, by omega⟩
 rw [List.length_eraseIdx_of_lt hj, hl, relF, hn, if_pos (by omega), Int.toNat_natCast]
 rfl
section
variable {w w1 W W1 : World} {base g : Nat} {P P' X : Nat → Prop} {room : Int} {l : List S32}
theorem BufI.bound (h : BufI w base P g room l) : BufI w base (fun k => P k ∧ k < w.heap.size) g room l := by
 obtain ⟨mb, es, c, A, ch, h⟩ := h.opened
 exact ⟨mb, es, c, A, ch, h.blk, h.bg, ⟨h.Pg, blk_lt h.blk⟩, h.bm, ⟨h.Pm, blk_lt h.map⟩, h.map, h.ok, Kd.S_mono h.row (fun k hk => ⟨hk.1, hk.2.1⟩)⟩
theorem BufI.mono (h : BufI w base P g room l) (hP : ∀ k, P k → P' k) : BufI w base P' g room l := by
 obtain ⟨mb, es, c, A, ch, h1, h2, h3, h4, h5, h6, h7, h8⟩ := h
 exact ⟨mb, es, c, A, ch, h1, h2, hP g h3, h4, hP mb h5, h6, h7, Kd.S_mono h8 (fun k hk => ⟨hP k hk.1, hk.2⟩)⟩
theorem BufI.step (h : BufI w base P g room l) (hm : ∀ k, P k → k < w.heap.size → w1.heap[k]? = w.heap[k]?) : BufI w1 base P g room l := by
 obtain ⟨mb, es, c, A, ch, h⟩ := h.opened
 refine ⟨mb, es, c, A, ch, (hm g h.Pg (blk_lt h.blk)).trans h.blk, h.bg, h.Pg, h.bm, h.Pm, (hm mb h.Pm (blk_lt h.map)).trans h.map, h.ok, Kd.S_mono (Kd.S_step h.row (fun k hk hlt => hm k hk.1.1 hlt)) (fun k hk => ⟨hk.1.1, hk.2.1⟩)⟩
theorem BufI.below (h : BufI w base P g room l) (hb : Below w.heap.size w w1) : BufI w1 base P g room l := h.step (fun k _ hk => hb.block k hk)
theorem BufI.base_le (h : BufI w base P g room l) : base ≤ w.heap.size := by
 obtain ⟨mb, es, c, A, ch, h⟩ := h.opened
 have h1 := blk_lt h.blk
 have h2 := h.bg
 omega
/-- What the loop keeps: the world w is that of the call; P the buffer's blocks, X those of the change that came. -/
structure RelI (w : World) (base : Nat) (P X : Nat → Prop) (g : Nat) (room : Int) (W : World) (kv ov : Value) (now : List Int) (out left : List S32) (P' O K : Nat → Prop) : Prop where
 buf : BufI W base P' g room left
 rows : Kd.S k32 32 W base O ov out
 clk : (Kd.int .i64).R 3 W base K kv now
 chk : chkC now = 0
 P'P : ∀ k, P' k → P k ∧ k < W.heap.size
 OP' : ∀ k, O k → ¬ P' k ∧ k < W.heap.size
 OX : ∀ k, O k → X k ∨ P k ∨ w.heap.size ≤ k
 KP' : ∀ k, K k → ¬ P' k ∧ ¬ O k
 kept : Kept w W P
 fresh : ∀ k, ov.ownBlock = some k → w.heap.size ≤ k
theorem RelI.below {kv ov : Value} {now : List Int} {out left : List S32} {O K : Nat → Prop} (h : RelI w base P X g room W kv ov now out left P' O K) (hb : Below W.heap.size W W1) : RelI w base P X g room W1 kv ov now out left P' O K :=
 ⟨h.buf.below hb, Kd.S_below h.rows hb, Kd.R_below h.clk hb, h.chk, fun k hk => ⟨(h.P'P k hk).1, Nat.lt_of_lt_of_le (h.P'P k hk).2 hb.size⟩, fun k hk => ⟨(h.OP' k hk).1, Nat.lt_of_lt_of_le (h.OP' k hk).2 hb.size⟩, h.OX, h.KP', h.kept.below hb, h.fresh⟩
end
end Go.Proofs.Ytnopjjilpgekfaa.PCa
namespace Go.Proofs.Ytnopjjilpgekfaa.PCa
open Go.RowKit Go.Proofs.YtnopjjilpgekfaaW.PrintWords Go.Proofs.YtnopjjilpgekfaaW.PrintLast Go.Proofs.YtnopjjilpgekfaaW.PrintMore
attribute [local go_sem] max2_int min2_int max_two min_two max_three min_three max_four min_four
set_option linter.unusedVariables false
set_option linter.unusedSimpArgs false
theorem grown_below {w w1 : World} (h : w.grownBy w1 none) : Below w.heap.size w w1 := ⟨h.os, h.tape, h.output, h.size, fun k hk => h.block k hk (by simp)⟩
theorem rel_start {w w0 w1 w2 : World} {base g : Nat} {P X : Nat → Prop} {room : Int} {l : List S32} {x : S32} {v1 v7 : Value} {now : List Int} (hB : BufI w base (fun k => P k ∧ k < w.heap.size) g room l) (hXP : ∀ k, X k → ¬ P k) (hb0 : Below w.heap.size w w0) (hb1 : Below w0.heap.size w0 w1) (hb2 : Below w1.heap.size w1 w2)
  (hs : Kd.S k32 32 w1 base (fun k => X k ∨ w0.heap.size ≤ k) v7 [x]) (hk : (Kd.int .i64).R 3 w2 w1.heap.size (fun _ => True) v1 now) (hc : chkC now = 0) (hbs : base ≤ w.heap.size) (hat : ∃ b, v7.ownBlock = some b ∧ w0.heap.size ≤ b) :
  RelI w base P X g room w2 v1 v7 now [x] l (fun k => P k ∧ k < w.heap.size) (fun k => (X k ∨ w0.heap.size ≤ k) ∧ k < w1.heap.size) (fun k => w1.heap.size ≤ k) := by
 have h0 := hb0.size
 have h1 := hb1.size
 have h2 := hb2.size
 have hbw : Below w.heap.size w w2 := (hb0.trans (hb1.mono h0)).trans (hb2.mono (Nat.le_trans h0 h1))
 refine ⟨hB.below hbw, Kd.S_below (Kd.S_mono (Kd.S_bound hs) (fun k hk => ⟨hk.1, hk.2.2.1⟩)) hb2, Kd.R_lower (Kd.R_mono (Kd.R_bound hk) (fun k hk => hk.2.1)) (by omega), hc, fun k hk => ⟨hk.1, by omega⟩, fun k hk => ⟨fun hp => ?_, by omega⟩, fun k hk => ?_, fun k hk => ⟨fun hp => by omega, fun ho => by omega⟩, Kept.of_below hbw _, fun k hk => ?_⟩
 ·rcases hk.1 with h | h
  ·exact hXP k h hp.1
  ·omega
 ·rcases hk.1 with h | h
  ·exact .inl h
  ·exact .inr (.inr (by omega))
 ·obtain ⟨b, hb, hle⟩ := hat
  rw [hb] at hk
  injection hk with hk
  omega
theorem rel_rows {w wr wd we : World} {base g : Nat} {P P' X O K O1 : Nat → Prop} {room : Int} {left out : List S32} {kv v7 : Value} {now : List Int} (h : RelI w base P X g room wr kv v7 now out left P' O K) (hb : Below wr.heap.size wr wd) (hk : Kept wd we P') (hO1 : ∀ k, O1 k → P' k) :
  Kd.S k32 32 we base (fun k => (O k ∨ O1 k ∨ we.heap.size ≤ k) ∧ ¬ O1 k) v7 out :=
 Kd.S_mono (Kd.S_step (Kd.S_below h.rows hb) (fun k ho hlt => hk.block k hlt (h.OP' k ho).1)) (fun k ho => ⟨.inl ho, fun h1 => (h.OP' k ho).1 (hO1 k h1)⟩)
theorem rel_next {w wr wc wd we wf : World} {base g i : Nat} {P P' X O K O1 : Nat → Prop} {room : Int} {left out : List S32} {kv v7 vn v8 : Value} {now now' : List Int} {y : S32} (h : RelI w base P X g room wr kv v7 now out left P' O K) (hbc : Below wr.heap.size wr wc) (hbd : Below wc.heap.size wc wd) (hn : (Kd.int .i64).R 3 wd wc.heap.size (fun _ => True) vn now') (hc : chkC now' = 0)
  (hk : Kept wd we P') (hO1 : ∀ k, O1 k → P' k) (hbuf : BufI we base (fun k => P' k ∧ ¬ O1 k) g room (left.eraseIdx i)) (hs : Kd.S k32 32 wf base (fun k => O k ∨ O1 k ∨ we.heap.size ≤ k) v8 (out ++ [y])) (hg : we.grownBy wf v7.ownBlock) (hat : v8.ownBlock = v7.ownBlock ∨ ∃ b, v8.ownBlock = some b ∧ we.heap.size ≤ b) :
  RelI w base P X g room wf vn v8 now' (out ++ [y]) (left.eraseIdx i) (fun k => P' k ∧ ¬ O1 k) (fun k => (O k ∨ O1 k ∨ we.heap.size ≤ k) ∧ k < wf.heap.size) (fun k => wc.heap.size ≤ k ∧ k < wd.heap.size) := by
 have h1 := hbc.size
 have h2 := hbd.size
 have h3 := hk.size
 have h4 := hg.size
 have hrow : ∀ k, some k = v7.ownBlock → O k := fun k hk => (Kd.S_R h.rows).1 k hk.symm
 have hbs := h.buf.base_le
 have hP' : ∀ k, P' k → P k ∧ k < wr.heap.size := h.P'P
 refine ⟨hbuf.step (fun k hk hlt => hg.block k hlt (fun e => (h.OP' k (hrow k e)).1 hk.1)), Kd.S_mono (Kd.S_bound hs) (fun k hk => ⟨hk.1, hk.2.2.1⟩), ?_, hc, fun k hk => ⟨(hP' k hk.1).1, by have := (hP' k hk.1).2; omega⟩, fun k hk => ⟨fun hp => ?_, hk.2⟩, fun k hk => ?_, fun k hk => ⟨fun hp => by have := (hP' k hp.1).2; omega, fun ho => ?_⟩, ?_, fun k hk => ?_⟩
 ·refine Kd.R_lower (Kd.R_step (Kd.R_step (Kd.R_mono (Kd.R_bound hn) (ok' := fun k => wc.heap.size ≤ k ∧ k < wd.heap.size) (fun k hk => ⟨hk.2.1, hk.2.2.1⟩)) (fun k ho hlt => hk.block k hlt (fun hp => by have := (hP' k hp).2; omega))) (fun k ho hlt => hg.block k hlt (fun e => by have := (h.OP' k (hrow k e)).2; omega))) (by omega)
 ·rcases hk.1 with h5 | h5 | h5
  ·exact (h.OP' k h5).1 hp.1
  ·exact hp.2 h5
  ·have := (hP' k hp.1).2; omega
 ·rcases hk.1 with h5 | h5 | h5
  ·exact h.OX k h5
  ·exact .inr (.inl (hP' k (hO1 k h5)).1)
  ·have := h.kept.size
   exact .inr (.inr (by omega))
 ·rcases ho.1 with h5 | h5 | h5
  ·have := (h.OP' k h5).2; omega
  ·have := (hP' k (hO1 k h5)).2; omega
  ·omega
 ·have k1 : Kept w wd P := (h.kept.below hbc).below hbd
  have k2 : Kept w we P := k1.then_ hk (fun k hk => .inl (hP' k hk).1)
  exact Kept.of_grown hg k2 (fun k hk => .inr (h.fresh k hk))
 ·have h0 := h.kept.size
  rcases hat with e | ⟨b, e, hle⟩
  ·exact h.fresh k (e ▸ hk)
  ·rw [e] at hk
   injection hk with hk
   omega
theorem dec_lt {n i : Nat} (h : i < n) : n - (intOf (Value.int .i64 ((i + 1 : Nat) : Int))).toNat < n - (intOf (Value.int .i64 (i : Int))).toNat := by
 show n - ((i + 1 : Nat) : Int).toNat < n - (i : Int).toNat
 rw [Int.toNat_natCast, Int.toNat_natCast]
 omega
theorem rel_lit {w w0 : World} {base : Nat} {X : Nat → Prop} {x : S32} {v : Value} (h : (Kd.int .i64).R 3 w base (fun k => X k ∧ base ≤ k ∧ k < w.heap.size ∧ ∃ q, q ∈ 3 :: (Kd.int .i64).E ∧ ∃ cells, w.heap[k]? = some (.cells cells q (0, 0))) v x.f2) (hb : Below w.heap.size w w0) :
  ∀ (j : Nat) (y : S32), [x][j]? = some y → k32.M w0 base (fun k => j = 0 ∧ X k ∧ k < w.heap.size) y (((chL x v).drop (j * k32.sz)).take k32.sz) := by
 intro j y hy
 cases j with
 | zero =>
  injection hy with hy
  subst hy
  exact chMk (Kd.R_mono (Kd.R_below h hb) (fun k hk => ⟨rfl, hk.1, hk.2.2.1⟩))
 | succ j => cases hy
set_option maxHeartbeats 8000000 in
set_option maxRecDepth 100000 in
theorem release_calls {w : World} {base : Nat} {P X : Nat → Prop} {g : Nat} {room : Int} {l : List S32} (hB : BufI w base P g room l) (hn : l.length < 1000) (A0 : Option Addr) (c0 : Nat) (known : List Int) (hk : Kd.C (Kd.int .i64) w A0 known.length known) (hkc : known.length ≤ c0)
  (x : S32) (A3 : Option Addr) (c3 : Nat) (hx : (Kd.int .i64).R 3 w base X (.slice A3 x.f2.length c3) x.f2) (hXP : ∀ k, X k → ¬ P k) (hl64 : ∀ y ∈ l, y.f2.length ≤ 64) :
  Calls Try.prog 38 #[.pointer (some ⟨g, 0, none⟩), .slice A0 known.length c0, (.agg #[.int .i64 x.f0.f0, .int .i64 x.f0.f1, .int .i64 x.f1, (.slice A3 x.f2.length c3), .int .i64 x.f3, .int .i64 x.f4.f0, .int .i64 x.f4.f1, .int .i64 x.f5.f0, .int .i64 x.f5.f1, .int .i64 x.f6.f0, .int .i64 x.f6.f1, .string x.f7, .string x.f8])] w fun e w' => ∃ (P' O : Nat → Prop) (v' : Value), e = .returned v' ∧ BufI w' base P' g room (relF l.length (tickC known x.f0.f1).1 [x] l).2 ∧ Kd.S k32 32 w' base O v' (relF l.length (tickC known x.f0.f1).1 [x] l).1 ∧ (∀ k, P' k → P k) ∧ (∀ k, O k → ¬ P' k) ∧ (∀ k, O k → X k ∨ P k ∨ w.heap.size ≤ k) ∧ Kept w w' P := by
 have HBUF := Aside0.mk hB.bound
 have HC3 := Aside0.mk (Kd.R_reads' hx).2.2
 have HL3 := Aside0.mk (Kd.R_reads' hx).2.1
 have HXR := Aside0.mk (Kd.R_bound hx)
 have HXP := Aside0.mk hXP
 have HK := Aside0.mk hk
 have HKC := Aside0.mk hkc
 have HN := Aside0.mk hn
 have H64 := Aside0.mk hl64
 have HBASE := Aside0.mk hB.base_le
 have HTK := Aside0.mk (causal_tick_is known x 301 (by omega))
 clear hB hx hXP hk hkc hn hl64
 go_enter Try.func38, Try.ntmps38
 go_wp2_with (first | ((with_reducible refine gate_dst (N := 5) rfl ?_); refine box_event ?hg (N := 5) ?hd (cs := #[.int .i64 x.f0.f0, .int .i64 x.f0.f1, .int .i64 x.f1, (.slice A3 x.f2.length c3), .int .i64 x.f3, .int .i64 x.f4.f0, .int .i64 x.f4.f1, .int .i64 x.f5.f0, .int .i64 x.f5.f1, .int .i64 x.f6.f0, .int .i64 x.f6.f1, .string x.f7, .string x.f8]) (t := 32) ?hr ?_; (case hd => rfl); (case hg => rfl); (case hr => first | (go_simp; done) | (go_simp; rfl)); intro gb hr_ w0 hbox hb; have HXgb := Aside0.mk hbox; have HBgb := Aside0.mk hb; have HNgb := Aside0.mk (Nat.le_of_eq hr_.symm); clear hbox hb hr_))
 go_step3
 go_wp2_with (first | ((with_reducible refine gate_dst (N := 10) rfl ?_); refine load32_ev rfl (N := 10) rfl x (.slice A3 x.f2.length c3) (p := .tmp 5) rfl (ad := ⟨gb, 0, none⟩) rfl (blk_cells HXgb.out) ?_) | ((with_reducible refine gate_dst (N := 11) rfl ?_); refine Kd.S_lits k32 (w0 := w0) base 32 ?hg (N := 11) ?hd (xs := [x]) (inner := chL x (.slice A3 x.f2.length c3)) (ok := fun k => X k ∨ w0.heap.size ≤ k) (fun j k => j = 0 ∧ X k ∧ k < w.heap.size) ?hr rfl ?hrep (fun i j k hi hj => hi.1.trans hj.1.symm) (fun j k hj => .inl hj.2.1) (.inr (Nat.le_refl _)) (Below.refl _ _) (Nat.le_trans HBASE.out HBgb.out.size) (by simp) ?_; (case hd => rfl); (case hg => rfl); (case hr => first | (go_simp; done) | (go_simp; rfl)); (case hrep => exact rel_lit HXR.out HBgb.out); intro v7 w1 hs_ hb_ hg_ hat_; have HS1 := Aside0.mk hs_; have HB1 := Aside0.mk (grown_below hg_); have HX1 := Aside0.mk (blk_below HXgb.out (grown_below hg_)); have HAT := Aside0.mk hat_; clear hs_ hb_ hg_ hat_) | ((with_reducible refine gate_dst (N := 13) rfl ?_); refine load32_ev rfl (N := 13) rfl x (.slice A3 x.f2.length c3) (p := .tmp 5) rfl (ad := ⟨gb, 0, none⟩) rfl (blk_cells HX1.out) ?_) | (go_at_call 66; (with_reducible refine (causal_tick.calls 301 A0 c0 known x.f0.f0 x.f0.f1 x.f1 A3 c3 x.f2 x.f3 x.f4.f0 x.f4.f1 x.f5.f0 x.f5.f1 x.f6.f0 x.f6.f1 x.f7 x.f8 _ _ ?s1 ?s2 ?s3 ?s4 HTK.out).mono ?_); (case s1 => exact Kd.C_below (Kd.C_below HK.out HBgb.out) HB1.out); (case s2 => exact HKC.out); (case s3 => exact Kd.C_below (Kd.C_below HC3.out HBgb.out) HB1.out); (case s4 => exact HL3.out); rintro e w2 ⟨v1, rfl, hk2, hb2⟩; have HK2 := Aside0.mk hk2; have HB2 := Aside0.mk hb2; clear hk2 hb2))
 go_step3
 go_wp2_with (fail)
 have hst := rel_start HBUF.out HXP.out HBgb.out HB1.out HB2.out HS1.out HK2.out (tick_chk known x.f0.f1) HBASE.out HAT.out
 have HST := Aside0.mk hst
 clear hst
 go_loopg [1, 7] l.length (fun kq v1' v7' wr => ∃ (now : List Int) (out left : List S32) (P' O K : Nat → Prop) (ov : Value), ov = v7' ∧ Aside0 (left.length = kq) ∧ Aside0 (RelI w base P X g room wr v1' ov now out left P' O K) ∧ Aside0 (relF left.length now out left = relF l.length (tickC known x.f0.f1).1 [x] l) ∧ Aside0 (∀ y ∈ left, y ∈ l) ∧ Aside0 (out.length + left.length = l.length + 1))
 case atStart => exact ⟨_, _, _, _, _, _, _, rfl, ⟨rfl⟩, HST, ⟨rfl⟩, ⟨fun _ h => h⟩, ⟨by rw [List.length_singleton]; omega⟩⟩
 case round =>
  clear HST HK2 HB2 HAT HX1 HB1 HS1 HXgb HTK
  obtain ⟨now, out, left, P', O, K, ov, rfl, HLEN, HR, HF, HSUB, HOL⟩ := hrel
  obtain ⟨wo, rfl⟩ : ∃ wo, wo = wr := ⟨wr, rfl⟩
  obtain ⟨Ak, ck, rfl⟩ := Kd.R_slice HR.out.clk
  obtain ⟨mb, es, cc, A, ch, hO⟩ := HR.out.buf.opened
  have HO := Aside0.mk hO
  have q1 : wo.cell? ⟨g, 1, none⟩ = some (.slice A left.length ch) := (blk_cell hO.blk 1).trans rfl
  clear hO
  go_wp2_with (fail)
  go_loopw [1, 7, 23] (fun v1q v7q v23 wq => ∃ i : Nat, v1q = .slice Ak now.length ck ∧ ov = v7q ∧ v23 = .int .i64 (i : Int) ∧ Aside0 (i ≤ left.length) ∧ Aside0 (∀ m, m < i → ripeC now (rd_T32 left (m : Int)) = false) ∧ Aside0 (Below wo.heap.size wo wq)) (fun _ _ v23 _ => left.length - (intOf v23).toNat)
  case atStart => exact ⟨0, rfl, rfl, rfl, ⟨Nat.zero_le _⟩, ⟨fun m hm => absurd hm (Nat.not_lt_zero m)⟩, ⟨Below.refl _ _⟩⟩
  case round =>
   clear q1
   obtain ⟨i, rfl, rfl, rfl, HI, HNR, HBq⟩ := hrel
   by_cases hi : i < left.length
   case neg =>
    have e1 : decide (i < left.length) = false := decide_eq_false hi
    have hnone : ∀ z ∈ left, ripeC now z = false := fun z hz => by
     obtain ⟨m, hm⟩ := List.mem_iff_getElem?.1 hz
     have hml := (List.getElem?_eq_some_iff.1 hm).1
     rw [rd32_at hml] at hm
     injection hm with hm
     rw [← hm]
     exact HNR.out m (by omega)
    have HE := Aside0.mk ((relF_none (out := out) hnone).symm.trans HF.out)
    clear hnone hi
    go_wp2_with (fail)
    rw [Exit.noGoto_ret]
    go_ret
    refine ⟨P', O, ov, rfl, ?_, ?_, fun k hk => (HR.out.P'P k hk).1, fun k hk => (HR.out.OP' k hk).1, HR.out.OX, HR.out.kept.below HBq.out⟩
    ·rw [← HE.out]
     exact HR.out.buf.below HBq.out
    ·rw [← HE.out]
     exact Kd.S_below HR.out.rows HBq.out
   have HI' := Aside0.mk hi
   obtain ⟨gr, cap, hform, hbgr, hgrw, cells, hgr⟩ := Kd.S_form HO.out.row (by omega)
   injection hform with hA _ hch
   subst hA; subst hch
   obtain ⟨c', hcl, hM, hcc, hfr⟩ := Kd.R_elem (Kd.S_R HO.out.row) z32 (i : Int) (by omega) (by omega)
   rw [Int.toNat_natCast] at hcc
   obtain ⟨v, rfl, hv⟩ := chM hM
   have hv2 : (Kd.int .i64).R 3 wo base _ v (rd_T32 left (i : Int)).f2 := hv
   have hcc2 : ∀ j u, (chL (rd_T32 left (i : Int)) v)[j]? = some u → wo.cell? ⟨gr, i * 13 + j, none⟩ = some u := hcc
   have hy : rd_T32 left (i : Int) ∈ left := List.mem_of_getElem? (rd32_at hi)
   obtain ⟨y, hyy⟩ : ∃ y, rd_T32 left (i : Int) = y := ⟨_, rfl⟩
   rw [hyy] at hv2 hcc2 hy
   clear hv hcc hM hcl hfr
   obtain ⟨Ae, ce, rfl, hle, hCe⟩ := Kd.R_reads hv2
   have HY := Aside0.mk hyy
   have HCC := Aside0.mk hcc2
   have HCE := Aside0.mk (Kd.C_below hCe HBq.out)
   have HLE := Aside0.mk hle
   have HRD := Aside0.mk (ready_is (known := now) (x := y) HR.out.chk (H64.out y (HSUB.out y hy)) 71 (by decide))
   have HGRW := Aside0.mk hgrw
   have b1 : (0 ≤ (i : Int)) = True := eq_true (by omega)
   have b2 : ((i : Int) < (left.length : Int)) = True := eq_true (by omega)
   have b3 : (i < left.length) = True := eq_true hi
   have e1 : decide ((i : Int) < (left.length : Int)) = true := decide_eq_true (by omega)
   clear hyy hcc2 hCe hle hgrw hgr hbgr hv2 hy hi
   by_cases hrp : ripeC now y = true
   ·rw [hrp] at HRD
    have HRP := Aside0.mk hrp
    have HTK2 := Aside0.mk (causal_tick_is now y 301 (by omega))
    clear hrp
    go_wp2_with (first | ((with_reducible refine gate_dst (N := 27) rfl ?_); refine load32_ev rfl (N := 27) rfl y (.slice Ae y.f2.length ce) (p := .tmp 26) rfl (ad := ⟨gr, i * 13, none⟩) rfl (fun j u hj => by rw [add_at]; exact (HBq.out.cell (p := ⟨gr, i * 13 + j, none⟩) HGRW.out).trans (HCC.out j u hj)) ?_) | ((with_reducible refine gate_dst (N := 9) rfl ?_); refine box_event ?hg (N := 9) ?hd (cs := #[.int .i64 0, .int .i64 0, .int .i64 0, .slice none 0 0, .int .i64 0, .int .i64 0, .int .i64 0, .int .i64 0, .int .i64 0, .int .i64 0, .int .i64 0, .string ⟨#[]⟩, .string ⟨#[]⟩]) (t := 32) ?hr ?_; (case hd => rfl); (case hg => rfl); (case hr => first | (go_simp; done) | (go_simp; rfl)); intro gc hr_ wa hbox hb; have HXgc := Aside0.mk hbox; have HBgc := Aside0.mk hb; have HNgc := Aside0.mk (Nat.le_of_eq hr_.symm); clear hbox hb hr_) | ((with_reducible refine gate_store (t := 32) (p := 9) (v := .tmp 27) rfl ?_); refine store32_ev rfl rfl y (.slice Ae y.f2.length ce) (p := .tmp 9) (q := .tmp 27) rfl (g := gc) rfl rfl rfl HXgc.out rfl ?_; intro wb hb_ hg_; have HSgc := Aside0.mk hb_; have HGgc := Aside0.mk hg_; clear hb_ hg_; have HBqb := Aside0.mk (HBgc.out.grown HGgc.out HBgc.out.size (fun k hk => by injection hk with hk; rw [← hk]; exact HNgc.out)); have HBb := Aside0.mk (HBq.out.trans (HBqb.out.mono HBq.out.size))) | ((with_reducible refine gate_dst (N := 29) rfl ?_); refine load32_ev rfl (N := 29) rfl y (.slice Ae y.f2.length ce) (p := .tmp 9) rfl (ad := ⟨gc, 0, none⟩) rfl (blk_cells HSgc.out) ?_) | (go_at_call 37; (with_reducible refine (causal_ready.calls 71 Ak ck now y.f0.f0 y.f0.f1 y.f1 Ae ce y.f2 y.f3 y.f4.f0 y.f4.f1 y.f5.f0 y.f5.f1 y.f6.f0 y.f6.f1 y.f7 y.f8 _ _ ?s1 ?s2 ?s3 ?s4 HRD.out).mono ?_); (case s1 => exact Kd.C_below (Kd.R_reads' HR.out.clk).2.2 HBb.out); (case s2 => exact (Kd.R_reads' HR.out.clk).2.1); (case s3 => exact Kd.C_below HCE.out HBqb.out); (case s4 => exact HLE.out); rintro e wc ⟨rfl, hbc⟩; have HBC := Aside0.mk hbc; clear hbc) | ((with_reducible refine gate_dst (N := 32) rfl ?_); refine load32_ev rfl (N := 32) rfl y (.slice Ae y.f2.length ce) (p := .tmp 9) rfl (ad := ⟨gc, 0, none⟩) rfl (blk_cells (blk_below HSgc.out HBC.out)) ?_) | (go_at_call 66; (with_reducible refine (causal_tick.calls 301 Ak ck now y.f0.f0 y.f0.f1 y.f1 Ae ce y.f2 y.f3 y.f4.f0 y.f4.f1 y.f5.f0 y.f5.f1 y.f6.f0 y.f6.f1 y.f7 y.f8 _ _ ?s1 ?s2 ?s3 ?s4 HTK2.out).mono ?_); (case s1 => exact Kd.C_below (Kd.C_below (Kd.R_reads' HR.out.clk).2.2 HBb.out) HBC.out); (case s2 => exact (Kd.R_reads' HR.out.clk).2.1); (case s3 => exact Kd.C_below (Kd.C_below HCE.out HBqb.out) HBC.out); (case s4 => exact HLE.out); rintro e wd ⟨vn, rfl, hn2, hbd⟩; have HN2 := Aside0.mk hn2; have HBD := Aside0.mk hbd; have HOC := Aside0.mk (HBb.out.trans (HBC.out.mono HBb.out.size)); have HOD := Aside0.mk (HOC.out.trans (HBD.out.mono HOC.out.size)); clear hn2 hbd) | (go_at_call 56; (with_reducible refine (take_calls (HR.out.buf.below HOD.out) i HI'.out ?s1).mono ?_); (case s1 => have h1_ := HN.out; have h2_ := HOL.out; omega); rw [HY.out]; rintro e we ⟨O1, v1e, rfl, hv1, hO1P, hbuf, hkp⟩; have HV1 := Aside0.mk hv1; have HO1P := Aside0.mk hO1P; have HBUF1 := Aside0.mk hbuf; have HKP := Aside0.mk hkp; have HROWS := Aside0.mk (rel_rows HR.out HOD.out HKP.out HO1P.out); clear hv1 hO1P hbuf hkp) | ((with_reducible refine gate_builtin (b := .append) (xs := #[.tmp 34, .tmp 38]) rfl ?_); at_builtin; refine Kd.S_append k32 (w0 := we) base rfl (.tmp 34) (.tmp 38) 22 32 (.agg #[.int .i64 0, .int .i64 0, .int .i64 0, .slice none 0 0, .int .i64 0, .int .i64 0, .int .i64 0, .int .i64 0, .int .i64 0, .int .i64 0, .int .i64 0, .string ⟨#[]⟩, .string ⟨#[]⟩]) 136 rfl Try.underlying22 info32 rfl (by decide) (by omega) ov out y (chL y v1e) (fun k => O k ∨ O1 k ∨ we.heap.size ≤ k) O1 rfl rfl (chMk HV1.out) ?hokp (fun k hk => .inr (.inr hk)) HROWS.out (Below.refl _ _) HBUF1.out.base_le ?hl ?_; (case hokp => exact fun k hk => ⟨.inr (.inl hk), fun e => (HR.out.OP' k ((Kd.S_R HR.out.rows).1 k e.symm)).1 (HO1P.out k hk)⟩); (case hl => have h1_ := HN.out; have h2_ := HOL.out; omega); intro v8 wf hs8 hb8 hg8 hat8; have HS8 := Aside0.mk hs8; have HG8 := Aside0.mk hg8; have HAT8 := Aside0.mk hat8; clear hs8 hb8 hg8 hat8))
    have hnx := relF_next (now := now) (out := out) HI'.out (by rw [HY.out]; exact HRP.out) (fun m hm => HNR.out m hm)
    rw [HY.out] at hnx
    have HNX := Aside0.mk (hnx.symm.trans HF.out)
    clear hnx
    go_roundg (left.length - 1)
    case measure => have h1_ := HLEN.out; have h2_ := HI'.out; omega
    case rel =>
     exact ⟨_, _, _, _, _, _, _, rfl, ⟨List.length_eraseIdx_of_lt HI'.out⟩, ⟨rel_next HR.out HOC.out HBD.out HN2.out (tick_chk _ _) HKP.out HO1P.out HBUF1.out HS8.out HG8.out HAT8.out⟩, HNX, ⟨fun z hz => HSUB.out z (List.mem_of_mem_eraseIdx hz)⟩, ⟨by rw [List.length_append, List.length_singleton, List.length_eraseIdx_of_lt HI'.out]; have h1_ := HI'.out; have h2_ := HOL.out; omega⟩⟩
   ·have hrf : ripeC now y = false := by simpa using hrp
    rw [hrf] at HRD
    have HRP := Aside0.mk hrf
    clear hrp hrf
    go_wp2_with (first | ((with_reducible refine gate_dst (N := 27) rfl ?_); refine load32_ev rfl (N := 27) rfl y (.slice Ae y.f2.length ce) (p := .tmp 26) rfl (ad := ⟨gr, i * 13, none⟩) rfl (fun j u hj => by rw [add_at]; exact (HBq.out.cell (p := ⟨gr, i * 13 + j, none⟩) HGRW.out).trans (HCC.out j u hj)) ?_) | ((with_reducible refine gate_dst (N := 9) rfl ?_); refine box_event ?hg (N := 9) ?hd (cs := #[.int .i64 0, .int .i64 0, .int .i64 0, .slice none 0 0, .int .i64 0, .int .i64 0, .int .i64 0, .int .i64 0, .int .i64 0, .int .i64 0, .int .i64 0, .string ⟨#[]⟩, .string ⟨#[]⟩]) (t := 32) ?hr ?_; (case hd => rfl); (case hg => rfl); (case hr => first | (go_simp; done) | (go_simp; rfl)); intro gc hr_ wa hbox hb; have HXgc := Aside0.mk hbox; have HBgc := Aside0.mk hb; have HNgc := Aside0.mk (Nat.le_of_eq hr_.symm); clear hbox hb hr_) | ((with_reducible refine gate_store (t := 32) (p := 9) (v := .tmp 27) rfl ?_); refine store32_ev rfl rfl y (.slice Ae y.f2.length ce) (p := .tmp 9) (q := .tmp 27) rfl (g := gc) rfl rfl rfl HXgc.out rfl ?_; intro wb hb_ hg_; have HSgc := Aside0.mk hb_; have HGgc := Aside0.mk hg_; clear hb_ hg_; have HBqb := Aside0.mk (HBgc.out.grown HGgc.out HBgc.out.size (fun k hk => by injection hk with hk; rw [← hk]; exact HNgc.out)); have HBb := Aside0.mk (HBq.out.trans (HBqb.out.mono HBq.out.size))) | ((with_reducible refine gate_dst (N := 29) rfl ?_); refine load32_ev rfl (N := 29) rfl y (.slice Ae y.f2.length ce) (p := .tmp 9) rfl (ad := ⟨gc, 0, none⟩) rfl (blk_cells HSgc.out) ?_) | (go_at_call 37; (with_reducible refine (causal_ready.calls 71 Ak ck now y.f0.f0 y.f0.f1 y.f1 Ae ce y.f2 y.f3 y.f4.f0 y.f4.f1 y.f5.f0 y.f5.f1 y.f6.f0 y.f6.f1 y.f7 y.f8 _ _ ?s1 ?s2 ?s3 ?s4 HRD.out).mono ?_); (case s1 => exact Kd.C_below (Kd.R_reads' HR.out.clk).2.2 HBb.out); (case s2 => exact (Kd.R_reads' HR.out.clk).2.1); (case s3 => exact Kd.C_below HCE.out HBqb.out); (case s4 => exact HLE.out); rintro e wc ⟨rfl, hbc⟩; have HBC := Aside0.mk hbc; clear hbc))
    have hiw : i < 100000 := by have h1_ := HI'.out; have h2_ := HN.out; have h3_ := HOL.out; omega
    rw [Go.Proofs.Ytnopjjilpgekfaa.PCa.w1 hiw]
    refine ⟨⟨i + 1, rfl, rfl, rfl, ⟨HI'.out⟩, ⟨fun m hm => ?_⟩, ⟨HBb.out.trans (HBC.out.mono HBb.out.size)⟩⟩, dec_lt HI'.out⟩
    rcases Nat.lt_or_eq_of_le (Nat.le_of_lt_succ hm) with h1_ | h1_
    ·exact HNR.out m h1_
    ·rw [h1_, HY.out]
     exact HRP.out
end Go.Proofs.Ytnopjjilpgekfaa.PCa
namespace Go.Proofs.Ytnopjjilpgekfaa.PCa
open Go.RowKit Go.Proofs.YtnopjjilpgekfaaW.PrintWords Go.Proofs.YtnopjjilpgekfaaW.PrintLast Go.Proofs.YtnopjjilpgekfaaW.PrintMore
attribute [local go_sem] max2_int min2_int max_two min_two max_three min_three max_four min_four   -- for this text's walks alone
set_option linter.unusedVariables false
set_option linter.unusedSimpArgs false
def change_Copy.f (a0_0 : Int) (a0_1 : Int) (a0_2 : Int) (l0_3 : List Int) (a0_4 : Int) (a0_5 : Int) (a0_6 : Int) (a0_7 : Int) (a0_8 : Int) (a0_9 : Int) (a0_10 : Int) (a0_11 : ByteArray) (a0_12 : ByteArray) : Option (Int × Int × Int × List Int × Int × Int × Int × Int × Int × Int × Int × ByteArray × ByteArray) := (some (([] : List Int) : List Int)).bind fun y387 => (if y387.length + l0_3.length < 17592186044416 then (some (a0_0, a0_1, a0_2, (y387 ++ l0_3), a0_4, a0_5, a0_6, a0_7, a0_8, a0_9, a0_10, a0_11, a0_12)) else (none))
set_option maxHeartbeats 8000000 in
set_option maxRecDepth 100000 in
theorem change_Copy.calls (a0_0 : Int) (a0_1 : Int) (a0_2 : Int) (A0_3 : Option Addr) (c0_3 : Nat) (l0_3 : List Int) (a0_4 : Int) (a0_5 : Int) (a0_6 : Int) (a0_7 : Int) (a0_8 : Int) (a0_9 : Int) (a0_10 : Int) (a0_11 : ByteArray) (a0_12 : ByteArray) (r1 : Int) (r2 : Int) (r3 : Int) (r4 : List Int) (r5 : Int) (r6 : Int) (r7 : Int) (r8 : Int) (r9 : Int) (r10 : Int) (r11 : Int) (r12 : ByteArray) (r13 : ByteArray) (w : World) (hr0_3 : Kd.C (Kd.int .i64) w A0_3 l0_3.length l0_3) (hc0_3 : l0_3.length ≤ c0_3) (h : change_Copy.f a0_0 a0_1 a0_2 l0_3 a0_4 a0_5 a0_6 a0_7 a0_8 a0_9 a0_10 a0_11 a0_12 = some (r1, r2, r3, r4, r5, r6, r7, r8, r9, r10, r11, r12, r13)) :
  Calls Try.prog 39 #[.agg #[.int .i64 a0_0, .int .i64 a0_1, .int .i64 a0_2, .slice A0_3 l0_3.length c0_3, .int .i64 a0_4, .int .i64 a0_5, .int .i64 a0_6, .int .i64 a0_7, .int .i64 a0_8, .int .i64 a0_9, .int .i64 a0_10, .string a0_11, .string a0_12]] w fun e w' => ∃ v3_ : Value, e = .returned (.agg #[.int .i64 r1, .int .i64 r2, .int .i64 r3, v3_, .int .i64 r5, .int .i64 r6, .int .i64 r7, .int .i64 r8, .int .i64 r9, .int .i64 r10, .int .i64 r11, .string r12, .string r13]) ∧ Kd.R (Kd.int .i64) 3 w' w.heap.size (fun _ => True) v3_ r4 ∧ Below w.heap.size w w' := by
 have hu32 := Try.underlying32
 have HR0_3 := Aside0.mk hr0_3
 have HC0_3 := Aside0.mk hc0_3
 clear hr0_3 hc0_3
 have HB := Aside0.mk (Below.refl w.heap.size w)
 have H : ((some (([] : List Int) : List Int)).bind fun y387 => (if y387.length + l0_3.length < 17592186044416 then (some (a0_0, a0_1, a0_2, (y387 ++ l0_3), a0_4, a0_5, a0_6, a0_7, a0_8, a0_9, a0_10, a0_11, a0_12)) else (none))) = some (r1, r2, r3, r4, r5, r6, r7, r8, r9, r10, r11, r12, r13) := h
 clear h
 obtain ⟨y387, hy387⟩ : ∃ y_ : List Int, y_ = (([] : List Int)) := ⟨_, rfl⟩
 replace H : (if y387.length + l0_3.length < 17592186044416 then (some (a0_0, a0_1, a0_2, (y387 ++ l0_3), a0_4, a0_5, a0_6, a0_7, a0_8, a0_9, a0_10, a0_11, a0_12)) else (none)) = some (r1, r2, r3, r4, r5, r6, r7, r8, r9, r10, r11, r12, r13) := by first | (rw [hy387]; with_reducible exact H) | (have H2_ := (Option.bind_some _ _).symm.trans H; rw [hy387]; with_reducible exact H2_) | (have H2_ := (Option.bind_some _ _).symm.trans H; with_reducible exact H2_) | with_reducible exact H | (rw [hy387]; exact H) | exact H
 have Ny387 := Aside0.mk hy387
 clear hy387
 by_cases c2 : y387.length + l0_3.length < 17592186044416
 ·rw [if_pos c2] at H
  have LMc2 := Aside0.mk c2
  clear c2
  obtain ⟨y390, hy390⟩ : ∃ y_ : List Int, y_ = (y387 ++ l0_3) := ⟨_, rfl⟩
  replace H : (some (a0_0, a0_1, a0_2, y390, a0_4, a0_5, a0_6, a0_7, a0_8, a0_9, a0_10, a0_11, a0_12)) = some (r1, r2, r3, r4, r5, r6, r7, r8, r9, r10, r11, r12, r13) := by first | (rw [hy390]; with_reducible exact H) | (have H2_ := (Option.bind_some _ _).symm.trans H; rw [hy390]; with_reducible exact H2_) | (have H2_ := (Option.bind_some _ _).symm.trans H; with_reducible exact H2_) | with_reducible exact H | (rw [hy390]; exact H) | exact H
  have Ny390 := Aside0.mk hy390
  clear hy390
  simp only [Option.some.injEq, Prod.mk.injEq] at H
  obtain ⟨rfl, rfl, rfl, rfl, rfl, rfl, rfl, rfl, rfl, rfl, rfl, rfl, rfl⟩ := H
  go_enter Try.func39, Try.ntmps39
  go_wp2_with (first | ((with_reducible refine gate_dst (N := 1) rfl ?_); refine box_event ?hg (N := 1) ?hd (cs := #[.int .i64 a0_0, .int .i64 a0_1, .int .i64 a0_2, .slice A0_3 l0_3.length c0_3, .int .i64 a0_4, .int .i64 a0_5, .int .i64 a0_6, .int .i64 a0_7, .int .i64 a0_8, .int .i64 a0_9, .int .i64 a0_10, .string a0_11, .string a0_12]) (t := 32) ?hr ?_; (case hd => rfl); (case hg => rfl); (case hr => first | (go_simp; done) | (go_simp; rfl)); intro gb385 hg w3 hbox hb; have n0_ := Aside0.mk (below_step (by repeat (first | (with_reducible first | exact HB.out | apply below_alloc | apply pw_below_drewN | apply below_drew1) | exact HB.out)) hb); have n1_ := Aside0.mk (hbox); have n2_ := Aside0.mk ((by rw [hg]; exact (below_size (by repeat (first | (with_reducible first | exact HB.out | apply below_alloc | apply pw_below_drewN | apply below_drew1) | exact HB.out))) : w.heap.size ≤ gb385)); have n3_ := Aside0.mk ((by rw [hg]; exact (below_size (by repeat (first | (with_reducible first | exact HB.out | apply below_alloc | apply pw_below_drewN | apply below_drew1) | exact HB.out))) : w.heap.size ≤ gb385)); clear HB; have HB := n0_; have BK385 := n1_; have GW385 := n2_; have GE385 := n3_; clear n0_ n1_ n2_ n3_; clear hb hbox hg) | ((with_reducible refine gate_dst (N := 2) rfl ?_); refine box_event ?hg (N := 2) ?hd (cs := #[.int .i64 0, .int .i64 0, .int .i64 0, .slice none 0 0, .int .i64 0, .int .i64 0, .int .i64 0, .int .i64 0, .int .i64 0, .int .i64 0, .int .i64 0, .string (⟨#[]⟩ : ByteArray), .string (⟨#[]⟩ : ByteArray)]) (t := 32) ?hr ?_; (case hd => rfl); (case hg => rfl); (case hr => first | (go_simp; done) | (go_simp; rfl)); intro gb386 hg w4 hbox hb; have n0_ := Aside0.mk (blk_below (g := gb385) (o := .cells #[.int .i64 a0_0, .int .i64 a0_1, .int .i64 a0_2, .slice A0_3 l0_3.length c0_3, .int .i64 a0_4, .int .i64 a0_5, .int .i64 a0_6, .int .i64 a0_7, .int .i64 a0_8, .int .i64 a0_9, .int .i64 a0_10, .string a0_11, .string a0_12] 32 (0, 0)) (by (with_reducible repeat (first | refine blk_drewN ?_ _ | refine blk_drew ?_ | refine blk_alloc ?_ _)); exact BK385.out) hb); have n1_ := Aside0.mk (below_step (by repeat (first | (with_reducible first | exact HB.out | apply below_alloc | apply pw_below_drewN | apply below_drew1 | refine below_set ?_ GE385.out) | exact HB.out)) hb); have n2_ := Aside0.mk (hbox); have n3_ := Aside0.mk ((by rw [hg]; exact (below_size (by repeat (first | (with_reducible first | exact HB.out | apply below_alloc | apply pw_below_drewN | apply below_drew1 | refine below_set ?_ GE385.out) | exact HB.out))) : w.heap.size ≤ gb386)); have n4_ := Aside0.mk ((by rw [hg]; exact (below_size (by repeat (first | (with_reducible first | exact HB.out | apply below_alloc | apply pw_below_drewN | apply below_drew1 | refine below_set ?_ GE385.out) | exact HB.out))) : w.heap.size ≤ gb386)); have n5_ := Aside0.mk ((by rw [hg]; exact Nat.ne_of_lt (blk_lt (g := gb385) (o := .cells #[.int .i64 a0_0, .int .i64 a0_1, .int .i64 a0_2, .slice A0_3 l0_3.length c0_3, .int .i64 a0_4, .int .i64 a0_5, .int .i64 a0_6, .int .i64 a0_7, .int .i64 a0_8, .int .i64 a0_9, .int .i64 a0_10, .string a0_11, .string a0_12] 32 (0, 0)) (by (with_reducible repeat (first | refine blk_drewN ?_ _ | refine blk_drew ?_ | refine blk_alloc ?_ _)); exact BK385.out)) : gb385 ≠ gb386)); have n6_ := Aside0.mk ((by rw [hg]; exact Nat.ne_of_gt (blk_lt (g := gb385) (o := .cells #[.int .i64 a0_0, .int .i64 a0_1, .int .i64 a0_2, .slice A0_3 l0_3.length c0_3, .int .i64 a0_4, .int .i64 a0_5, .int .i64 a0_6, .int .i64 a0_7, .int .i64 a0_8, .int .i64 a0_9, .int .i64 a0_10, .string a0_11, .string a0_12] 32 (0, 0)) (by (with_reducible repeat (first | refine blk_drewN ?_ _ | refine blk_drew ?_ | refine blk_alloc ?_ _)); exact BK385.out)) : gb386 ≠ gb385)); clear BK385; clear HB; have BK385 := n0_; have HB := n1_; have BK386 := n2_; have GW386 := n3_; have GE386 := n4_; have NB385_386 := n5_; have NB386_385 := n6_; clear n0_ n1_ n2_ n3_ n4_ n5_ n6_; clear hb hbox hg) | ((with_reducible refine gate_dst (N := 3) rfl ?_); refine Kd.R_lit (Kd.int .i64) _ 3 ?hg (N := 3) ?hd (xs := ([] : List Int)) (inner := []) (ok := fun _ => True) (okp := fun _ => True) ?hr ?hp (fun _ hk => hk) trivial (Below.refl _ _) (Nat.le_refl _) (by simp) ?_; (case hd => rfl); (case hg => rfl); (case hr => first | (go_simp; done) | (go_simp; rfl)); (case hp => exact (Reps.none _ _)); intro v388 w5 ho6 hb hg_ hnew_; clear hg_ hnew_; (first | rw [← Ny387.out] at ho6 | (simp only [Int.reduceToNat] at ho6; rw [← Ny387.out] at ho6)); have n0_ := Aside0.mk (Kd.R_lower ho6 (below_size (by repeat (first | (with_reducible first | exact HB.out | apply below_alloc | apply pw_below_drewN | apply below_drew1 | refine below_set ?_ GE385.out | refine below_set ?_ GE386.out) | exact HB.out)))); have n1_ := Aside0.mk (blk_below (g := gb385) (o := .cells #[.int .i64 a0_0, .int .i64 a0_1, .int .i64 a0_2, .slice A0_3 l0_3.length c0_3, .int .i64 a0_4, .int .i64 a0_5, .int .i64 a0_6, .int .i64 a0_7, .int .i64 a0_8, .int .i64 a0_9, .int .i64 a0_10, .string a0_11, .string a0_12] 32 (0, 0)) (by (with_reducible repeat (first | refine blk_drewN ?_ _ | refine blk_drew ?_ | refine blk_alloc ?_ _)); exact BK385.out) hb); have n2_ := Aside0.mk (blk_below (g := gb386) (o := .cells #[.int .i64 0, .int .i64 0, .int .i64 0, .slice none 0 0, .int .i64 0, .int .i64 0, .int .i64 0, .int .i64 0, .int .i64 0, .int .i64 0, .int .i64 0, .string (⟨#[]⟩ : ByteArray), .string (⟨#[]⟩ : ByteArray)] 32 (0, 0)) (by (with_reducible repeat (first | refine blk_drewN ?_ _ | refine blk_drew ?_ | refine blk_alloc ?_ _)); exact BK386.out) hb); have n3_ := Aside0.mk (below_step (by repeat (first | (with_reducible first | exact HB.out | apply below_alloc | apply pw_below_drewN | apply below_drew1 | refine below_set ?_ GE385.out | refine below_set ?_ GE386.out) | exact HB.out)) hb); clear BK385; clear BK386; clear HB; have HO389 := n0_; have BK385 := n1_; have BK386 := n2_; have HB := n3_; clear n0_ n1_ n2_ n3_; clear hb ho6; have hnb7 := NB385_386.out; have hnc7 := NB386_385.out; obtain ⟨hcz8_0, hcz8_1, hcz8_2, hcz8_3, hcz8_4, hcz8_5, hcz8_6, hcz8_7, hcz8_8, hcz8_9, hcz8_10, hcz8_11, hcz8_12⟩ := cells13 BK385.out; obtain ⟨hfz8_0, hfz8_1, hfz8_2, hfz8_3, hfz8_4, hfz8_5, hfz8_6, hfz8_7, hfz8_8, hfz8_9, hfz8_10, hfz8_11, hfz8_12⟩ := froz13 BK385.out) | ((with_reducible refine gate_builtin (b := .append) (xs := #[.tmp 3, .tmp 5]) rfl ?_); at_builtin; refine Kd.R_append_rows (Kd.int .i64) (w0 := w) w.heap.size rfl (.tmp 3) (.tmp 5) 23 3 (.int .i64 0) 8 rfl Try.underlying23 info3 rfl (by decide) (by omega) v388 y387 l0_3 _ _ _ (fun _ => True) (fun _ => False) rfl rfl ?aO ?aR (fun _ _ h => h) (fun _ h => h.elim) ?aF ?aB ?aS ?aL ?_; (case aR => repeat (first | exact (Kd.C_below HR0_3.out HB.out) | (with_reducible refine Kd.C_alloc ?_ _) | (with_reducible refine Kd.C_drewN ?_ _) | (with_reducible refine Kd.C_drew ?_))); (case aB => exact (by repeat (first | (with_reducible first | exact HB.out | apply below_alloc | apply pw_below_drewN | apply below_drew1 | refine below_set ?_ GE385.out | refine below_set ?_ GE386.out) | exact HB.out))); (case aF => exact (fun _ _ => trivial)); (case aO => exact (by (with_reducible repeat (first | apply Kd.R_alloc | apply Kd.R_drewN | apply Kd.R_drew)); exact HO389.out)); (case aS => exact (below_size (by repeat (first | (with_reducible first | exact HB.out | apply below_alloc | apply pw_below_drewN | apply below_drew1 | refine below_set ?_ GE385.out | refine below_set ?_ GE386.out) | exact HB.out)))); (case aL => have := LMc2.out; omega); intro v391 w9 ho hb hg hat; rw [← Ny390.out] at ho; have n0_ := Aside0.mk (blk_grown (g := gb385) (o := .cells #[.int .i64 a0_0, .int .i64 a0_1, .int .i64 a0_2, .slice A0_3 l0_3.length c0_3, .int .i64 a0_4, .int .i64 a0_5, .int .i64 a0_6, .int .i64 a0_7, .int .i64 a0_8, .int .i64 a0_9, .int .i64 a0_10, .string a0_11, .string a0_12] 32 (0, 0)) (by (with_reducible repeat (first | refine blk_drewN ?_ _ | refine blk_drew ?_ | refine blk_alloc ?_ _)); exact BK385.out) hg (Kd.R_ne HO389.out BK385.out (by decide))); have n1_ := Aside0.mk (blk_grown (g := gb386) (o := .cells #[.int .i64 0, .int .i64 0, .int .i64 0, .slice none 0 0, .int .i64 0, .int .i64 0, .int .i64 0, .int .i64 0, .int .i64 0, .int .i64 0, .int .i64 0, .string (⟨#[]⟩ : ByteArray), .string (⟨#[]⟩ : ByteArray)] 32 (0, 0)) (by (with_reducible repeat (first | refine blk_drewN ?_ _ | refine blk_drew ?_ | refine blk_alloc ?_ _)); exact BK386.out) hg (Kd.R_ne HO389.out BK386.out (by decide))); have n2_ := Aside0.mk (hb); have n3_ := Aside0.mk (ho); clear BK385; clear BK386; clear HB; clear HO389; have BK385 := n0_; have BK386 := n1_; have HB := n2_; have HO392 := n3_; clear n0_ n1_ n2_ n3_; clear ho hb hg hat; obtain ⟨Ao10, co10, eo10⟩ := Kd.R_slice HO392.out; subst eo10; obtain ⟨hcz11_0, hcz11_1, hcz11_2, hcz11_3, hcz11_4, hcz11_5, hcz11_6, hcz11_7, hcz11_8, hcz11_9, hcz11_10, hcz11_11, hcz11_12⟩ := cells13 BK385.out; obtain ⟨hfz11_0, hfz11_1, hfz11_2, hfz11_3, hfz11_4, hfz11_5, hfz11_6, hfz11_7, hfz11_8, hfz11_9, hfz11_10, hfz11_11, hfz11_12⟩ := froz13 BK385.out; obtain ⟨hcz12_0, hcz12_1, hcz12_2, hcz12_3, hcz12_4, hcz12_5, hcz12_6, hcz12_7, hcz12_8, hcz12_9, hcz12_10, hcz12_11, hcz12_12⟩ := cells13 BK386.out; obtain ⟨hfz12_0, hfz12_1, hfz12_2, hfz12_3, hfz12_4, hfz12_5, hfz12_6, hfz12_7, hfz12_8, hfz12_9, hfz12_10, hfz12_11, hfz12_12⟩ := froz13 BK386.out))
  refine bodyPost_ret (results_cell_row rfl _ _ gb386 32 #[.int .i64 a0_0, .int .i64 a0_1, .int .i64 a0_2, .slice Ao10 y390.length co10, .int .i64 a0_4, .int .i64 a0_5, .int .i64 a0_6, .int .i64 a0_7, .int .i64 a0_8, .int .i64 a0_9, .int .i64 a0_10, .string a0_11, .string a0_12] (0, 0) _ rfl (by (with_reducible repeat (first | refine blk_drewN ?_ _ | refine blk_drew ?_ | refine blk_alloc ?_ _)); refine blk_put (cs := #[.int .i64 a0_0, .int .i64 a0_1, .int .i64 a0_2, .slice Ao10 y390.length co10, .int .i64 a0_4, .int .i64 a0_5, .int .i64 a0_6, .int .i64 a0_7, .int .i64 a0_8, .int .i64 a0_9, .int .i64 a0_10, .string a0_11, .string (⟨#[]⟩ : ByteArray)]) ?_ 12 _ rfl; (with_reducible repeat (first | refine blk_drewN ?_ _ | refine blk_drew ?_ | refine blk_alloc ?_ _)); refine blk_put (cs := #[.int .i64 a0_0, .int .i64 a0_1, .int .i64 a0_2, .slice Ao10 y390.length co10, .int .i64 a0_4, .int .i64 a0_5, .int .i64 a0_6, .int .i64 a0_7, .int .i64 a0_8, .int .i64 a0_9, .int .i64 a0_10, .string (⟨#[]⟩ : ByteArray), .string (⟨#[]⟩ : ByteArray)]) ?_ 11 _ rfl; (with_reducible repeat (first | refine blk_drewN ?_ _ | refine blk_drew ?_ | refine blk_alloc ?_ _)); refine blk_put (cs := #[.int .i64 a0_0, .int .i64 a0_1, .int .i64 a0_2, .slice Ao10 y390.length co10, .int .i64 a0_4, .int .i64 a0_5, .int .i64 a0_6, .int .i64 a0_7, .int .i64 a0_8, .int .i64 a0_9, .int .i64 0, .string (⟨#[]⟩ : ByteArray), .string (⟨#[]⟩ : ByteArray)]) ?_ 10 _ rfl; (with_reducible repeat (first | refine blk_drewN ?_ _ | refine blk_drew ?_ | refine blk_alloc ?_ _)); refine blk_put (cs := #[.int .i64 a0_0, .int .i64 a0_1, .int .i64 a0_2, .slice Ao10 y390.length co10, .int .i64 a0_4, .int .i64 a0_5, .int .i64 a0_6, .int .i64 a0_7, .int .i64 a0_8, .int .i64 0, .int .i64 0, .string (⟨#[]⟩ : ByteArray), .string (⟨#[]⟩ : ByteArray)]) ?_ 9 _ rfl; (with_reducible repeat (first | refine blk_drewN ?_ _ | refine blk_drew ?_ | refine blk_alloc ?_ _)); refine blk_put (cs := #[.int .i64 a0_0, .int .i64 a0_1, .int .i64 a0_2, .slice Ao10 y390.length co10, .int .i64 a0_4, .int .i64 a0_5, .int .i64 a0_6, .int .i64 a0_7, .int .i64 0, .int .i64 0, .int .i64 0, .string (⟨#[]⟩ : ByteArray), .string (⟨#[]⟩ : ByteArray)]) ?_ 8 _ rfl; (with_reducible repeat (first | refine blk_drewN ?_ _ | refine blk_drew ?_ | refine blk_alloc ?_ _)); refine blk_put (cs := #[.int .i64 a0_0, .int .i64 a0_1, .int .i64 a0_2, .slice Ao10 y390.length co10, .int .i64 a0_4, .int .i64 a0_5, .int .i64 a0_6, .int .i64 0, .int .i64 0, .int .i64 0, .int .i64 0, .string (⟨#[]⟩ : ByteArray), .string (⟨#[]⟩ : ByteArray)]) ?_ 7 _ rfl; (with_reducible repeat (first | refine blk_drewN ?_ _ | refine blk_drew ?_ | refine blk_alloc ?_ _)); refine blk_put (cs := #[.int .i64 a0_0, .int .i64 a0_1, .int .i64 a0_2, .slice Ao10 y390.length co10, .int .i64 a0_4, .int .i64 a0_5, .int .i64 0, .int .i64 0, .int .i64 0, .int .i64 0, .int .i64 0, .string (⟨#[]⟩ : ByteArray), .string (⟨#[]⟩ : ByteArray)]) ?_ 6 _ rfl; (with_reducible repeat (first | refine blk_drewN ?_ _ | refine blk_drew ?_ | refine blk_alloc ?_ _)); refine blk_put (cs := #[.int .i64 a0_0, .int .i64 a0_1, .int .i64 a0_2, .slice Ao10 y390.length co10, .int .i64 a0_4, .int .i64 0, .int .i64 0, .int .i64 0, .int .i64 0, .int .i64 0, .int .i64 0, .string (⟨#[]⟩ : ByteArray), .string (⟨#[]⟩ : ByteArray)]) ?_ 5 _ rfl; (with_reducible repeat (first | refine blk_drewN ?_ _ | refine blk_drew ?_ | refine blk_alloc ?_ _)); refine blk_put (cs := #[.int .i64 a0_0, .int .i64 a0_1, .int .i64 a0_2, .slice Ao10 y390.length co10, .int .i64 0, .int .i64 0, .int .i64 0, .int .i64 0, .int .i64 0, .int .i64 0, .int .i64 0, .string (⟨#[]⟩ : ByteArray), .string (⟨#[]⟩ : ByteArray)]) ?_ 4 _ rfl; (with_reducible repeat (first | refine blk_drewN ?_ _ | refine blk_drew ?_ | refine blk_alloc ?_ _)); refine blk_put (cs := #[.int .i64 a0_0, .int .i64 a0_1, .int .i64 a0_2, .slice none 0 0, .int .i64 0, .int .i64 0, .int .i64 0, .int .i64 0, .int .i64 0, .int .i64 0, .int .i64 0, .string (⟨#[]⟩ : ByteArray), .string (⟨#[]⟩ : ByteArray)]) ?_ 3 _ rfl; (with_reducible repeat (first | refine blk_drewN ?_ _ | refine blk_drew ?_ | refine blk_alloc ?_ _)); refine blk_put (cs := #[.int .i64 a0_0, .int .i64 a0_1, .int .i64 0, .slice none 0 0, .int .i64 0, .int .i64 0, .int .i64 0, .int .i64 0, .int .i64 0, .int .i64 0, .int .i64 0, .string (⟨#[]⟩ : ByteArray), .string (⟨#[]⟩ : ByteArray)]) ?_ 2 _ rfl; (with_reducible repeat (first | refine blk_drewN ?_ _ | refine blk_drew ?_ | refine blk_alloc ?_ _)); refine blk_put (cs := #[.int .i64 a0_0, .int .i64 0, .int .i64 0, .slice none 0 0, .int .i64 0, .int .i64 0, .int .i64 0, .int .i64 0, .int .i64 0, .int .i64 0, .int .i64 0, .string (⟨#[]⟩ : ByteArray), .string (⟨#[]⟩ : ByteArray)]) ?_ 1 _ rfl; (with_reducible repeat (first | refine blk_drewN ?_ _ | refine blk_drew ?_ | refine blk_alloc ?_ _)); refine blk_put (cs := #[.int .i64 0, .int .i64 0, .int .i64 0, .slice none 0 0, .int .i64 0, .int .i64 0, .int .i64 0, .int .i64 0, .int .i64 0, .int .i64 0, .int .i64 0, .string (⟨#[]⟩ : ByteArray), .string (⟨#[]⟩ : ByteArray)]) ?_ 0 _ rfl; (with_reducible repeat (first | refine blk_drewN ?_ _ | refine blk_drew ?_ | refine blk_alloc ?_ _)); refine blk_far ?_ NB386_385.out _; (with_reducible repeat (first | refine blk_drewN ?_ _ | refine blk_drew ?_ | refine blk_alloc ?_ _)); exact BK386.out) Try.underlying32 rfl (by kernel_rfl)) rfl ?_
  exact ⟨_, by first | rfl | (simp [errW_none, errW_some] <;> rfl) | (simp [*, errW_none, errW_some] <;> rfl), by (with_reducible repeat (first | apply Kd.R_alloc | apply Kd.R_drewN | apply Kd.R_drew)); exact Kd.R_mono (Kd.R_far (p := ⟨gb386, 12, none⟩) (Kd.R_far (p := ⟨gb386, 11, none⟩) (Kd.R_far (p := ⟨gb386, 10, none⟩) (Kd.R_far (p := ⟨gb386, 9, none⟩) (Kd.R_far (p := ⟨gb386, 8, none⟩) (Kd.R_far (p := ⟨gb386, 7, none⟩) (Kd.R_far (p := ⟨gb386, 6, none⟩) (Kd.R_far (p := ⟨gb386, 5, none⟩) (Kd.R_far (p := ⟨gb386, 4, none⟩) (Kd.R_far (p := ⟨gb386, 3, none⟩) (Kd.R_far (p := ⟨gb386, 2, none⟩) (Kd.R_far (p := ⟨gb386, 1, none⟩) (Kd.R_far (p := ⟨gb386, 0, none⟩) (Kd.R_far (p := ⟨gb385, 3, none⟩) (Kd.R_types (Kd.R_types HO392.out BK385.out (by decide)) BK386.out (by decide)) (fun _ hk => hk.1.2) (.slice Ao10 y390.length co10)) (fun _ hk => hk.2) (.int .i64 a0_0)) (fun _ hk => hk.2) (.int .i64 a0_1)) (fun _ hk => hk.2) (.int .i64 a0_2)) (fun _ hk => hk.2) (.slice Ao10 y390.length co10)) (fun _ hk => hk.2) (.int .i64 a0_4)) (fun _ hk => hk.2) (.int .i64 a0_5)) (fun _ hk => hk.2) (.int .i64 a0_6)) (fun _ hk => hk.2) (.int .i64 a0_7)) (fun _ hk => hk.2) (.int .i64 a0_8)) (fun _ hk => hk.2) (.int .i64 a0_9)) (fun _ hk => hk.2) (.int .i64 a0_10)) (fun _ hk => hk.2) (.string a0_11)) (fun _ hk => hk.2) (.string a0_12)) (fun _ hk => trivial), by repeat (first | (with_reducible first | exact HB.out | apply below_alloc | apply pw_below_drewN | apply below_drew1 | refine below_set ?_ GE385.out | refine below_set ?_ GE386.out) | exact HB.out)⟩
 ·rw [if_neg c2] at H
  exact absurd H (by simp)
end Go.Proofs.Ytnopjjilpgekfaa.PCa
namespace Go.Proofs.Ytnopjjilpgekfaa.PCa
open Go.RowKit Go.Proofs.YtnopjjilpgekfaaW.PrintWords Go.Proofs.YtnopjjilpgekfaaW.PrintLast Go.Proofs.YtnopjjilpgekfaaW.PrintMore
attribute [local go_sem] max2_int min2_int max_two min_two max_three min_three max_four min_four
set_option linter.unusedVariables false
set_option linter.unusedSimpArgs false
theorem copy_is (y : S32) (h : y.f2.length ≤ 64) : change_Copy.f y.f0.f0 y.f0.f1 y.f1 y.f2 y.f3 y.f4.f0 y.f4.f1 y.f5.f0 y.f5.f1 y.f6.f0 y.f6.f1 y.f7 y.f8 = some (y.f0.f0, y.f0.f1, y.f1, y.f2, y.f3, y.f4.f0, y.f4.f1, y.f5.f0, y.f5.f1, y.f6.f0, y.f6.f1, y.f7, y.f8) := by
 unfold change_Copy.f
 rw [Option.bind_some, if_pos (by simp only [List.length_nil]; omega), List.nil_append]
set_option maxHeartbeats 8000000 in
set_option maxRecDepth 100000 in
theorem held_calls {w : World} {base : Nat} {P : Nat → Prop} {g : Nat} {room : Int} {l : List S32} (hB : BufI w base P g room l) (hn : l.length < 1000) (hl64 : ∀ y ∈ l, y.f2.length ≤ 64) :
  Calls Try.prog 22 #[.pointer (some ⟨g, 0, none⟩)] w fun e w' => ∃ v', e = .returned v' ∧ Kd.S k32 32 w' w.heap.size (fun k => w.heap.size ≤ k) v' l ∧ Below w.heap.size w w' := by
 obtain ⟨mb, es, cc, A, ch, hO⟩ := hB.opened
 have HO := Aside0.mk hO
 have HN := Aside0.mk hn
 have H64 := Aside0.mk hl64
 have q1 : w.cell? ⟨g, 1, none⟩ = some (.slice A l.length ch) := (blk_cell hO.blk 1).trans rfl
 clear hB hO hn hl64
 go_enter Try.func22, Try.ntmps22
 go_wp2_with (fail)
 go_loopw [3, 13] (fun v3 v13 wq => ∃ (i : Nat) (ov : Value), v13 = .int .i64 (i : Int) ∧ ov = v3 ∧ Aside0 (i ≤ l.length) ∧ Aside0 (Kd.S k32 32 wq w.heap.size (fun k => w.heap.size ≤ k) ov (l.take i)) ∧ Aside0 (Below w.heap.size w wq)) (fun _ v13 _ => l.length - (intOf v13).toNat)
 case atStart => exact ⟨0, _, rfl, rfl, ⟨Nat.zero_le _⟩, ⟨Kd.S_nil _ _ _ _ _⟩, ⟨Below.refl _ _⟩⟩
 case round =>
  clear q1
  obtain ⟨i, ov, rfl, rfl, HI, HS, HBq⟩ := hrel
  by_cases hi : i < l.length
  case neg =>
   have e1 : decide (i < l.length) = false := decide_eq_false hi
   have ht : l.take i = l := List.take_of_length_le (by omega)
   rw [ht] at HS
   clear ht hi
   go_wp2_with (fail)
   go_ret
   exact ⟨ov, rfl, HS.out, HBq.out⟩
  have HI' := Aside0.mk hi
  obtain ⟨gr, cap, hform, hbgr, hgrw, cells, hgr⟩ := Kd.S_form HO.out.row (by omega)
  injection hform with hA _ hch
  subst hA; subst hch
  obtain ⟨c', hcl, hM, hcc, hfr⟩ := Kd.R_elem (Kd.S_R HO.out.row) z32 (i : Int) (by omega) (by omega)
  rw [Int.toNat_natCast] at hcc
  obtain ⟨v, rfl, hv⟩ := chM hM
  have hv2 : (Kd.int .i64).R 3 w base _ v (rd_T32 l (i : Int)).f2 := hv
  have hcc2 : ∀ j u, (chL (rd_T32 l (i : Int)) v)[j]? = some u → w.cell? ⟨gr, i * 13 + j, none⟩ = some u := hcc
  have hy : rd_T32 l (i : Int) ∈ l := List.mem_of_getElem? (rd32_at hi)
  have htk : l.take (i + 1) = l.take i ++ [rd_T32 l (i : Int)] := by
   rw [List.take_add_one, rd32_at hi]
   rfl
  obtain ⟨y, hyy⟩ : ∃ y, rd_T32 l (i : Int) = y := ⟨_, rfl⟩
  rw [hyy] at hv2 hcc2 hy htk
  clear hv hcc hM hcl hfr
  obtain ⟨Ae, ce, rfl, hle, hCe⟩ := Kd.R_reads hv2
  have HTK := Aside0.mk htk
  have HCC := Aside0.mk hcc2
  have HCE := Aside0.mk (Kd.C_below hCe HBq.out)
  have HLE := Aside0.mk hle
  have HCP := Aside0.mk (copy_is y (H64.out y hy))
  have HGRW := Aside0.mk hgrw
  have b1 : (0 ≤ (i : Int)) = True := eq_true (by omega)
  have b2 : ((i : Int) < (l.length : Int)) = True := eq_true (by omega)
  have b3 : (i < l.length) = True := eq_true hi
  have b4 : decide (i < l.length) = true := decide_eq_true hi
  clear hyy hcc2 hCe hle hgrw hgr hbgr hv2 hy hi htk
  go_wp2_with (first | ((with_reducible refine gate_dst (N := 16) rfl ?_); refine load32_ev rfl (N := 16) rfl y (.slice Ae y.f2.length ce) (p := .tmp 15) rfl (ad := ⟨gr, i * 13, none⟩) rfl (fun j u hj => by rw [add_at]; exact (HBq.out.cell (p := ⟨gr, i * 13 + j, none⟩) HGRW.out).trans (HCC.out j u hj)) ?_) | ((with_reducible refine gate_dst (N := 5) rfl ?_); refine box_event ?hg (N := 5) ?hd (cs := #[.int .i64 0, .int .i64 0, .int .i64 0, .slice none 0 0, .int .i64 0, .int .i64 0, .int .i64 0, .int .i64 0, .int .i64 0, .int .i64 0, .int .i64 0, .string ⟨#[]⟩, .string ⟨#[]⟩]) (t := 32) ?hr ?_; (case hd => rfl); (case hg => rfl); (case hr => first | (go_simp; done) | (go_simp; rfl)); intro gc hr_ wa hbox hb; have HXgc := Aside0.mk hbox; have HBgc := Aside0.mk hb; have HNgc := Aside0.mk (Nat.le_of_eq hr_.symm); clear hbox hb hr_) | ((with_reducible refine gate_store (t := 32) (p := 5) (v := .tmp 16) rfl ?_); refine store32_ev rfl rfl y (.slice Ae y.f2.length ce) (p := .tmp 5) (q := .tmp 16) rfl (g := gc) rfl rfl rfl HXgc.out rfl ?_; intro wb hb_ hg_; have HSgc := Aside0.mk hb_; have HGgc := Aside0.mk hg_; clear hb_ hg_; have HBqb := Aside0.mk (HBgc.out.grown HGgc.out HBgc.out.size (fun k hk => by injection hk with hk; rw [← hk]; exact HNgc.out)); have HBb := Aside0.mk (HBq.out.trans (HBqb.out.mono HBq.out.size))) | ((with_reducible refine gate_dst (N := 18) rfl ?_); refine load32_ev rfl (N := 18) rfl y (.slice Ae y.f2.length ce) (p := .tmp 5) rfl (ad := ⟨gc, 0, none⟩) rfl (blk_cells HSgc.out) ?_) | (go_at_call 39; (with_reducible refine (change_Copy.calls y.f0.f0 y.f0.f1 y.f1 Ae ce y.f2 y.f3 y.f4.f0 y.f4.f1 y.f5.f0 y.f5.f1 y.f6.f0 y.f6.f1 y.f7 y.f8 y.f0.f0 y.f0.f1 y.f1 y.f2 y.f3 y.f4.f0 y.f4.f1 y.f5.f0 y.f5.f1 y.f6.f0 y.f6.f1 y.f7 y.f8 _ ?s3 ?s4 HCP.out).mono ?_); (case s3 => exact Kd.C_below HCE.out HBqb.out); (case s4 => exact HLE.out); rintro e we ⟨v1e, rfl, hv1, hbc⟩; have HV1 := Aside0.mk (Kd.R_mono (Kd.R_bound hv1) (ok' := fun k => wb.heap.size ≤ k ∧ k < we.heap.size) (fun k hk => ⟨hk.2.1, hk.2.2.1⟩)); have HBC := Aside0.mk hbc; have HBE := Aside0.mk (HBb.out.trans (hbc.mono HBb.out.size)); have HROWS := Aside0.mk (Kd.S_below (Kd.S_mono (Kd.S_bound (Kd.S_below HS.out HBqb.out)) (ok' := fun k => w.heap.size ≤ k ∧ ¬ (wb.heap.size ≤ k ∧ k < we.heap.size)) (fun k hk => ⟨hk.1, fun h => Nat.lt_irrefl _ (Nat.lt_of_lt_of_le hk.2.2.1 h.1)⟩)) hbc); clear hv1 hbc) | ((with_reducible refine gate_builtin (b := .append) (xs := #[.tmp 17, .tmp 20]) rfl ?_); at_builtin; refine Kd.S_append k32 (w0 := w) w.heap.size rfl (.tmp 17) (.tmp 20) 22 32 (.agg #[.int .i64 0, .int .i64 0, .int .i64 0, .slice none 0 0, .int .i64 0, .int .i64 0, .int .i64 0, .int .i64 0, .int .i64 0, .int .i64 0, .int .i64 0, .string ⟨#[]⟩, .string ⟨#[]⟩]) 136 rfl Try.underlying22 info32 rfl (by decide) (by omega) ov (l.take i) y (chL y v1e) (fun k => w.heap.size ≤ k) (fun k => wb.heap.size ≤ k ∧ k < we.heap.size) rfl rfl (chMk (Kd.R_lower HV1.out HBb.out.size)) ?hokp (fun k hk => Nat.le_trans HBE.out.size hk) HROWS.out HBE.out HBE.out.size ?hl ?_; (case hokp => exact fun k hk => ⟨Nat.le_trans HBb.out.size hk.1, fun e => by have h1_ := Kd.S_lt (Kd.S_below HS.out HBqb.out) k e.symm; omega⟩); (case hl => have h1_ := HN.out; have h2_ := List.length_take_le i l; have h3_ := HI'.out; omega); intro v8 wf hs8 hb8 hg8 hat8; have HS8 := Aside0.mk hs8; have HB8 := Aside0.mk hb8; clear hs8 hb8 hg8 hat8))
  have hiw : i < 100000 := by have h1_ := HI'.out; have h2_ := HN.out; omega
  rw [Go.Proofs.Ytnopjjilpgekfaa.PCa.w1 hiw]
  exact ⟨⟨i + 1, v8, rfl, rfl, ⟨HI'.out⟩, ⟨by rw [HTK.out]; exact HS8.out⟩, ⟨HB8.out⟩⟩, dec_lt HI'.out⟩
end Go.Proofs.Ytnopjjilpgekfaa.PCa
