/- What the statement's row needs of this session's texts, joined by program: part 6. -/
import Derived.Test.YtnopjjilpgekfaaQT4
namespace Go.Proofs.Ytnopjjilpgekfaa.PCa
open Go.RowKit Go.Proofs.YtnopjjilpgekfaaW.PrintWords Go.Proofs.YtnopjjilpgekfaaW.PrintLast Go.Proofs.YtnopjjilpgekfaaW.PrintMore
attribute [local go_sem] max2_int min2_int max_two min_two max_three min_three max_four min_four
set_option linter.unusedVariables false
set_option linter.unusedSimpArgs false
def topiaryref09_tick.f (k : Nat) (l0 : List Int) (a1_0 : Int) (a1_1 : Int) (a1_2 : Int) (l1_3 : List Int) (a1_4 : Int) (a1_5 : Int) (a1_6 : Int) (a1_7 : Int) (a1_8 : Int) (a1_9 : Int) (a1_10 : Int) (a1_11 : ByteArray) (a1_12 : ByteArray) : Option (List Int) := (topiaryref02_Tick.f k l0 a1_1).bind fun bt491 => (some bt491.1)
set_option maxHeartbeats 8000000 in
set_option maxRecDepth 100000 in
theorem topiaryref09_tick.calls (k : Nat) (A0 : Option Addr) (c0 : Nat) (l0 : List Int) (a1_0 : Int) (a1_1 : Int) (a1_2 : Int) (A1_3 : Option Addr) (c1_3 : Nat) (l1_3 : List Int) (a1_4 : Int) (a1_5 : Int) (a1_6 : Int) (a1_7 : Int) (a1_8 : Int) (a1_9 : Int) (a1_10 : Int) (a1_11 : ByteArray) (a1_12 : ByteArray) (r : List Int) (w : World) (hr0 : Kd.C (Kd.int .i64) w A0 l0.length l0) (hc0 : l0.length ≤ c0) (hr1_3 : Kd.C (Kd.int .i64) w A1_3 l1_3.length l1_3) (hc1_3 : l1_3.length ≤ c1_3) (h : topiaryref09_tick.f k l0 a1_0 a1_1 a1_2 l1_3 a1_4 a1_5 a1_6 a1_7 a1_8 a1_9 a1_10 a1_11 a1_12 = some r) :
  Calls Try.prog 53 #[.slice A0 l0.length c0, .agg #[.int .i64 a1_0, .int .i64 a1_1, .int .i64 a1_2, .slice A1_3 l1_3.length c1_3, .int .i64 a1_4, .int .i64 a1_5, .int .i64 a1_6, .int .i64 a1_7, .int .i64 a1_8, .int .i64 a1_9, .int .i64 a1_10, .string a1_11, .string a1_12]] w fun e w' => ∃ v0_ : Value, e = .returned (v0_) ∧ Kd.R (Kd.int .i64) 3 w' w.heap.size (fun _ => True) v0_ r ∧ Below w.heap.size w w' := by
 have hu32 := Try.underlying32
 have HR0 := Aside0.mk hr0
 have HC0 := Aside0.mk hc0
 clear hr0 hc0
 have HR1_3 := Aside0.mk hr1_3
 have HC1_3 := Aside0.mk hc1_3
 clear hr1_3 hc1_3
 have HB := Aside0.mk (Below.refl w.heap.size w)
 have H : ((topiaryref02_Tick.f k l0 a1_1).bind fun bt491 => (some bt491.1)) = some r := h
 clear h
 replace H := Option.bind_eq_some_iff.mp H
 obtain ⟨⟨t491, t492⟩, A30, H⟩ := H
 replace H : (some t491) = some r := H
 have A3 := Aside0.mk A30
 clear A30
 obtain rfl := Option.some.inj H
 go_enter Try.func53, Try.ntmps53
 go_wp2_with (first | ((with_reducible refine gate_dst (N := 3) rfl ?_); refine box_event ?hg (N := 3) ?hd (cs := #[.int .i64 a1_0, .int .i64 a1_1, .int .i64 a1_2, .slice A1_3 l1_3.length c1_3, .int .i64 a1_4, .int .i64 a1_5, .int .i64 a1_6, .int .i64 a1_7, .int .i64 a1_8, .int .i64 a1_9, .int .i64 a1_10, .string a1_11, .string a1_12]) (t := 32) ?hr ?_; (case hd => rfl); (case hg => rfl); (case hr => first | (go_simp; done) | (go_simp; rfl)); intro gb490 hg w4 hbox hb; have n0_ := Aside0.mk (below_step (by repeat (first | (with_reducible first | exact HB.out | apply below_alloc | apply pw_below_drewN | apply below_drew1) | exact HB.out)) hb); have n1_ := Aside0.mk (hbox); have n2_ := Aside0.mk ((by rw [hg]; exact (below_size (by repeat (first | (with_reducible first | exact HB.out | apply below_alloc | apply pw_below_drewN | apply below_drew1) | exact HB.out))) : w.heap.size ≤ gb490)); have n3_ := Aside0.mk ((by rw [hg]; exact (below_size (by repeat (first | (with_reducible first | exact HB.out | apply below_alloc | apply pw_below_drewN | apply below_drew1) | exact HB.out))) : w.heap.size ≤ gb490)); clear HB; have HB := n0_; have BK490 := n1_; have GW490 := n2_; have GE490 := n3_; clear n0_ n1_ n2_ n3_; clear hb hbox hg; obtain ⟨hcz5_0, hcz5_1, hcz5_2, hcz5_3, hcz5_4, hcz5_5, hcz5_6, hcz5_7, hcz5_8, hcz5_9, hcz5_10, hcz5_11, hcz5_12⟩ := cells13 BK490.out) | ((with_reducible refine gate_callee (f := 21) rfl ?_); refine goesL_ (some 12) rfl rfl Try.func21 (by kernel_rfl) rfl #[.slice A0 l0.length c0, .int .i64 a1_1] rfl (by (try simp only [List.map_toArray, List.map_cons, List.map_nil]); first | done | rfl | (simp only [List.length_drop, List.length_take]; rfl)) ?_; (with_reducible refine (topiaryref02_Tick.calls k _ _ l0 a1_1 t491 t492 _ ?side1 ?side2 A3.out).mono ?_); (case side1 => repeat (first | exact (Kd.C_below HR0.out HB.out) | (with_reducible refine Kd.C_alloc ?_ _) | (with_reducible refine Kd.C_drewN ?_ _) | (with_reducible refine Kd.C_drew ?_))); (case side2 => exact HC0.out); rintro e w6 ⟨v493, rfl, ho0, hb⟩; refine ⟨_, rfl, ?_⟩; have n0_ := Aside0.mk (Kd.R_lower ho0 (below_size (by repeat (first | (with_reducible first | exact HB.out | apply below_alloc | apply pw_below_drewN | apply below_drew1 | refine below_set ?_ GE490.out) | exact HB.out)))); have n1_ := Aside0.mk (blk_below (g := gb490) (o := .cells #[.int .i64 a1_0, .int .i64 a1_1, .int .i64 a1_2, .slice A1_3 l1_3.length c1_3, .int .i64 a1_4, .int .i64 a1_5, .int .i64 a1_6, .int .i64 a1_7, .int .i64 a1_8, .int .i64 a1_9, .int .i64 a1_10, .string a1_11, .string a1_12] 32 (0, 0)) (by (with_reducible repeat (first | refine blk_drewN ?_ _ | refine blk_drew ?_ | refine blk_alloc ?_ _)); exact BK490.out) hb); have n2_ := Aside0.mk (below_step (by repeat (first | (with_reducible first | exact HB.out | apply below_alloc | apply pw_below_drewN | apply below_drew1 | refine below_set ?_ GE490.out) | exact HB.out)) hb); clear BK490; clear HB; have HO494 := n0_; have BK490 := n1_; have HB := n2_; clear n0_ n1_ n2_; (try clear hb); (try clear hb2); (try clear hk); (try clear hi); (try clear ho0)))
 go_ret
 exact ⟨_, by first | rfl | (simp [errW_none, errW_some] <;> rfl) | (simp [*, errW_none, errW_some] <;> rfl), by (with_reducible repeat (first | apply Kd.R_alloc | apply Kd.R_drewN | apply Kd.R_drew)); exact HO494.out, by repeat (first | (with_reducible first | exact HB.out | apply below_alloc | apply pw_below_drewN | apply below_drew1 | refine below_set ?_ GE490.out) | exact HB.out)⟩
end Go.Proofs.Ytnopjjilpgekfaa.PCa
namespace Go.Proofs.Ytnopjjilpgekfaa.PCa
open Go.RowKit Go.Proofs.YtnopjjilpgekfaaW.PrintWords Go.Proofs.YtnopjjilpgekfaaW.PrintLast Go.Proofs.YtnopjjilpgekfaaW.PrintMore
set_option linter.unusedVariables false
set_option linter.unusedSimpArgs false
/-- What is held is right, and in order. -/
structure Good (l : List S32) : Prop where
 ok : ∀ y ∈ l, checkX y = 0
 ord : l.Pairwise (fun a b => befX a b = true)
theorem bef_iff (a b : S32) : befX a b = true ↔ a.f0.f0 < b.f0.f0 ∨ (a.f0.f0 = b.f0.f0 ∧ (a.f0.f1 < b.f0.f1 ∨ (a.f0.f1 = b.f0.f1 ∧ a.f1 < b.f1))) := by
 unfold befX lessC
 simp only [Bool.or_eq_true, Bool.and_eq_true, decide_eq_true_eq, beq_iff_eq]
 omega
theorem bef_trans {a b c : S32} (h1 : befX a b = true) (h2 : befX b c = true) : befX a c = true := by
 rw [bef_iff] at *
 omega
theorem bef_asymm {a b : S32} (h1 : befX a b = true) : befX b a = false := by
 rw [Bool.eq_false_iff]
 intro h2
 rw [bef_iff] at *
 omega
theorem bef_total {a b : S32} (h : befX a b = false) (hk : keyOf a ≠ keyOf b) : befX b a = true := by
 have h' : ¬ (befX a b = true) := by rw [h]; decide
 rw [bef_iff] at h' ⊢
 have : ¬ (a.f0.f1 = b.f0.f1 ∧ a.f1 = b.f1) := fun e => hk (by unfold keyOf; rw [e.1, e.2])
 omega
theorem Good.nil : Good [] := ⟨(fun _ h => nomatch h), List.Pairwise.nil⟩
theorem Good.erase {l : List S32} (h : Good l) (i : Nat) : Good (l.eraseIdx i) := ⟨fun y hy => h.ok y (List.mem_of_mem_eraseIdx hy), h.ord.sublist (List.eraseIdx_sublist _ _)⟩
theorem Good.filter {l : List S32} (h : Good l) (p : S32 → Bool) : Good (l.filter p) := ⟨fun y hy => h.ok y (List.mem_filter.1 hy).1, h.ord.sublist List.filter_sublist⟩
theorem Good.len {l : List S32} (h : Good l) : ∀ y ∈ l, y.f2.length ≤ 64 := fun y hy => (check_ok (h.ok y hy)).2.2.2.2.2
theorem Good.seq {l : List S32} (h : Good l) : ∀ y ∈ l, 0 ≤ y.f1 ∧ y.f1 ≤ 1099511627776 := fun y hy => by
 have := check_ok (h.ok y hy)
 omega
theorem Good.mono {l : List S32} (h : Good l) (x : S32) : ∀ a b, a ≤ b → b < l.length → cmpX (rd_T32 l (b : Nat)) x < 0 → cmpX (rd_T32 l (a : Nat)) x < 0 := fun a b hab hb hc => by
 rcases Nat.lt_or_eq_of_le hab with hlt | rfl
 ·have h1 := List.pairwise_iff_getElem.1 h.ord a b (by omega) hb hlt
  have ea : l[a]'(by omega) = rd_T32 l (a : Nat) := by
   have := rd32_at (l := l) (j := a) (by omega)
   rw [List.getElem?_eq_getElem (by omega)] at this
   exact Option.some.inj this
  have eb : l[b] = rd_T32 l (b : Nat) := by
   have := rd32_at hb
   rw [List.getElem?_eq_getElem hb] at this
   exact Option.some.inj this
  rw [ea, eb] at h1
  rw [cmp_neg] at hc ⊢
  exact bef_trans h1 hc
 ·exact hc
/-- Those ahead of x are the first ones. -/
theorem Good.split {l : List S32} (h : Good l) (x : S32) : (∀ y ∈ l.take (cntX x l), befX y x = true) ∧ ∀ y ∈ l.drop (cntX x l), befX y x = false := by
 induction l with
 | nil => exact ⟨fun _ h => (by simp at h), fun _ h => (by simp at h)⟩
 | cons a t ih =>
  have ht : Good t := ⟨fun y hy => h.ok y (List.mem_cons_of_mem _ hy), (List.pairwise_cons.1 h.ord).2⟩
  obtain ⟨i1, i2⟩ := ih ht
  by_cases ha : befX a x = true
  ·have hc : cntX x (a :: t) = cntX x t + 1 := by
    unfold cntX
    rw [List.countP_cons_of_pos (by rw [decide_eq_true_eq, cmp_neg]; exact ha)]
   rw [hc]
   refine ⟨fun y hy => ?_, fun y hy => i2 y (by simpa using hy)⟩
   rw [List.take_succ_cons] at hy
   rcases List.mem_cons.1 hy with rfl | hy
   ·exact ha
   ·exact i1 y hy
  ·have hall : ∀ y ∈ t, befX y x = false := fun y hy => by
    rw [Bool.eq_false_iff]
    intro hb
    exact ha (bef_trans ((List.pairwise_cons.1 h.ord).1 y hy) hb)
   have hc : cntX x (a :: t) = 0 := by
    unfold cntX
    rw [List.countP_eq_zero]
    intro y hy
    rw [decide_eq_true_eq, cmp_neg]
    rcases List.mem_cons.1 hy with rfl | hy
    ·exact ha
    ·rw [hall y hy]; decide
   rw [hc]
   refine ⟨fun y hy => (by simp at hy), fun y hy => ?_⟩
   rcases List.mem_cons.1 (by simpa using hy) with rfl | hy
   ·simpa using ha
   ·exact hall y hy
theorem putC_at (x : S32) : ∀ (l1 l2 : List S32), (∀ y ∈ l1, befX x y = false) → (∀ y ∈ l2, befX x y = true) → putC x (l1 ++ l2) = l1 ++ x :: l2
 | [], [], _, _ => rfl
 | [], y :: t, _, h2 => by
  rw [List.nil_append, putC, if_pos (h2 y List.mem_cons_self)]
  rfl
 | a :: l1, l2, h1, h2 => by
  rw [List.cons_append, putC, if_neg (by rw [h1 a List.mem_cons_self]; decide), putC_at x l1 l2 (fun y hy => h1 y (List.mem_cons_of_mem _ hy)) h2]
  rfl
theorem ownX_no {l : List S32} {x : S32} (h : ownX l x = false) : ∀ y ∈ l, keyOf y ≠ keyOf x := fun y hy e => of_decide_eq_false h (e ▸ List.mem_map_of_mem hy)
theorem Good.put {l : List S32} (h : Good l) {x : S32} (ho : ownX l x = false) : putC x l = l.take (cntX x l) ++ x :: l.drop (cntX x l) := by
 obtain ⟨h1, h2⟩ := h.split x
 have := putC_at x (l.take (cntX x l)) (l.drop (cntX x l)) (fun y hy => bef_asymm (h1 y hy)) (fun y hy => bef_total (h2 y hy) (ownX_no ho y (List.mem_of_mem_drop hy)))
 rwa [List.take_append_drop] at this
theorem Good.more {l : List S32} (h : Good l) {x : S32} (hx : checkX x = 0) (ho : ownX l x = false) : Good (l.take (cntX x l) ++ x :: l.drop (cntX x l)) := by
 obtain ⟨h1, h2⟩ := h.split x
 refine ⟨fun y hy => ?_, ?_⟩
 ·rcases List.mem_append.1 hy with hy | hy
  ·exact h.ok y (List.mem_of_mem_take hy)
  ·rcases List.mem_cons.1 hy with rfl | hy
   ·exact hx
   ·exact h.ok y (List.mem_of_mem_drop hy)
 ·have ht := h.ord.sublist (List.take_sublist (cntX x l) l)
  have hd := h.ord.sublist (List.drop_sublist (cntX x l) l)
  refine List.pairwise_append.2 ⟨ht, List.pairwise_cons.2 ⟨fun y hy => bef_total (h2 y hy) (ownX_no ho y (List.mem_of_mem_drop hy)), hd⟩, fun a ha b hb => ?_⟩
  rcases List.mem_cons.1 hb with rfl | hb
  ·exact h1 a ha
  ·have := h.ord
   rw [← List.take_append_drop (cntX x l) l] at this
   exact (List.pairwise_append.1 this).2.2 a ha b hb
theorem relF_good : ∀ (n : Nat) {now : List Int} {out left : List S32}, Good left → Good (relF n now out left).2
 | 0, _, _, _, h => h
 | n + 1, now, out, left, h => by
  rw [relF]
  split
  ·exact relF_good n (h.erase _)
  ·exact h
theorem relF_len : ∀ (n : Nat) {now : List Int} {out left : List S32}, (relF n now out left).2.length ≤ left.length
 | 0, _, _, _ => Nat.le_refl _
 | n + 1, now, out, left => by
  rw [relF]
  split
  ·exact Nat.le_trans (relF_len n) (List.length_eraseIdx_le _ _)
  ·exact Nat.le_refl _
theorem take_good {room : Int} {l : List S32} (h : Good l) (known : List Int) (x : S32) : Good (takeF room l known x).1 := by
 unfold takeF
 split
 ·split
  ·rename_i hx
   split
   ·exact h
   ·rename_i hw
    split
    ·exact relF_good _ h
    ·split
     ·exact h
     ·refine h.more hx ?_
      simp only [Bool.or_eq_true, not_or, Bool.not_eq_true] at hw
      exact hw.2
  ·exact h
 ·exact h
theorem take_room {room : Int} {l : List S32} (h : (l.length : Int) ≤ room) (known : List Int) (x : S32) : ((takeF room l known x).1.length : Int) ≤ room := by
 unfold takeF
 split
 ·split
  ·split
   ·exact h
   ·split
    ·have := relF_len l.length (now := (tickC known x.f0.f1).1) (out := [x]) (left := l)
     show ((relF l.length (tickC known x.f0.f1).1 [x] l).2.length : Int) ≤ room
     omega
    ·split
     ·exact h
     ·simp only [List.length_append, List.length_take, List.length_cons, List.length_drop]
      omega
  ·exact h
 ·exact h
/-- Take of the program. -/
theorem take13_calls {w : World} {base : Nat} {P : Nat → Prop} {g : Nat} {room : Int} {l : List S32} (hB : BufI w base P g room l) (hG : Good l) (hroom : (l.length : Int) ≤ room) (hr2 : room ≤ 256) (A0 : Option Addr) (c0 : Nat) (known : List Int) (hk : Kd.C (Kd.int .i64) w A0 known.length known) (hkc : known.length ≤ c0)
  (x : S32) (A3 : Option Addr) (c3 : Nat) {X : Nat → Prop} (hxF : Kd.F (Kd.int .i64) w X A3 x.f2.length x.f2) (hXP : ∀ k, X k → ¬ P k) (hx3 : x.f2.length ≤ c3) (hs : x.f7.size < 4611686018427387904) :
  Calls Try.prog 13 #[.pointer (some ⟨g, 0, none⟩), .slice A0 known.length c0, .agg (chA x (.slice A3 x.f2.length c3))] w (TakeB w base P g room (takeF room l known x)) := by
 have hn : l.length < 1000 := by omega
 unfold takeF
 by_cases c1 : chkC known = 0
 ·rw [if_pos c1]
  by_cases c2 : checkX x = 0
  ·rw [if_pos c2]
   cases hw : withinX known x with
   | true =>
    rw [Bool.true_or, if_pos rfl]
    exact take_within hB A0 c0 known hk hkc x A3 c3 (Kd.F_now hxF) hx3 hs c1 c2 hw
   | false =>
    rw [Bool.false_or]
    cases ho : ownX l x with
    | true =>
     rw [if_pos rfl]
     exact take_own hB A0 c0 known hk hkc x A3 c3 (Kd.F_now hxF) hx3 hs c1 c2 hw ho
    | false =>
     rw [if_neg (by decide)]
     cases hr : ripeC known x with
     | true =>
      rw [if_pos rfl]
      exact take_ripe hB A0 c0 known hk hkc x A3 c3 (Kd.F_now hxF) hx3 hs c1 c2 hw ho hr hn hG.len
     | false =>
      rw [if_neg (by decide)]
      by_cases hf : room ≤ l.length
      ·rw [if_pos hf]
       exact take_full hB A0 c0 known hk hkc x A3 c3 (Kd.F_now hxF) hx3 hs c1 c2 hw ho hr hf
      ·rw [if_neg hf]
       exact take_put hB A0 c0 known hk hkc x A3 c3 (Kd.F_now hxF) hx3 hs c1 c2 hw ho hr hf hn hG.seq (hG.mono x) hxF hXP
  ·rw [if_neg c2]
   exact take_bad hB A0 c0 known hk hkc x A3 c3 (Kd.F_now hxF) hx3 hs c1 c2 _
 ·rw [if_neg c1]
  exact take_chk hB A0 c0 known hk hkc x A3 c3 (Kd.F_now hxF) hx3 c1 _
theorem ref_tick_is (l : List Int) (x : S32) (k : Nat) (hk : 300 < k) : topiaryref09_tick.f k l x.f0.f0 x.f0.f1 x.f1 x.f2 x.f3 x.f4.f0 x.f4.f1 x.f5.f0 x.f5.f1 x.f6.f0 x.f6.f1 x.f7 x.f8 = some (tickC l x.f0.f1).1 := by
 unfold topiaryref09_tick.f
 rw [ref_Tick_is l _ k hk, Option.bind_some]
theorem ref_copy_is (y : S32) (h : y.f2.length ≤ 64) : topiaryref05_Copy.f y.f0.f0 y.f0.f1 y.f1 y.f2 y.f3 y.f4.f0 y.f4.f1 y.f5.f0 y.f5.f1 y.f6.f0 y.f6.f1 y.f7 y.f8 = some (y.f0.f0, y.f0.f1, y.f1, y.f2, y.f3, y.f4.f0, y.f4.f1, y.f5.f0, y.f5.f1, y.f6.f0, y.f6.f1, y.f7, y.f8) := by
 unfold topiaryref05_Copy.f
 rw [Option.bind_some, if_pos (by simp only [List.length_nil]; omega), List.nil_append]
theorem next_is {l : List S32} (h : Good l) (known : List Int) (hl : l.length < 90000) (k : Nat) (hk : l.length + 80 < k) : topiaryref09_next.f k known l = some (nextI known l 0) := by
 unfold topiaryref09_next.f
 have := next_loop l known hl (fun x hx => ⟨h.len x hx, h.seq x hx⟩) l.length 0 k (by omega) hk
 rw [List.drop_zero] at this
 exact this
theorem next_lt (known : List Int) : ∀ (l : List S32) (i : Nat), 0 ≤ nextI known l i → ∃ j, j < l.length ∧ nextI known l i = ((i + j : Nat) : Int)
 | [], _, h => by rw [nextI] at h; omega
 | x :: t, i, h => by
  rw [nextI] at h ⊢
  by_cases hr : ripeC known x = true
  ·rw [if_pos hr]
   exact ⟨0, by simp, rfl⟩
  ·rw [if_neg hr] at h ⊢
   obtain ⟨j, h1, h2⟩ := next_lt known t (i + 1) h
   refine ⟨j + 1, by simpa using h1, ?_⟩
   rw [h2]
   congr 1
   omega
theorem own_is (l : List S32) (x : S32) (hl : l.length < 90000) (k : Nat) (hk : l.length < k) : ∃ r, topiaryref07_Own.f k l x.f0.f1 x.f1 = some r ∧ decide (r ≥ 0) = ownX l x := by
 obtain ⟨r, h1, h2⟩ := own_loop l x.f0.f1 x.f1 hl l.length 0 k (by omega) hk
 refine ⟨r, h1, ?_⟩
 unfold ownX
 rw [decide_eq_decide, h2]
 constructor
 ·rintro ⟨j, _, hj, e1, e2⟩
  have := List.mem_map_of_mem (f := keyOf) (List.mem_of_getElem? (rd32_at hj))
  have e : keyOf (rd_T32 l (j : Int)) = keyOf x := by unfold keyOf; rw [e1, e2]
  rwa [e] at this
 ·intro hm
  obtain ⟨y, hy, e⟩ := List.mem_map.1 hm
  obtain ⟨j, hj⟩ := List.mem_iff_getElem?.1 hy
  have hjl := (List.getElem?_eq_some_iff.1 hj).1
  rw [rd32_at hjl] at hj
  injection hj with hj
  unfold keyOf at e
  injection e with e1 e2
  exact ⟨j, Nat.zero_le _, hjl, by rw [hj]; exact e1, by rw [hj]; exact e2⟩
end Go.Proofs.Ytnopjjilpgekfaa.PCa
namespace Go.Proofs.Ytnopjjilpgekfaa.PCa
open Go.RowKit Go.Proofs.YtnopjjilpgekfaaW.PrintWords Go.Proofs.YtnopjjilpgekfaaW.PrintLast Go.Proofs.YtnopjjilpgekfaaW.PrintMore
attribute [local go_sem] max2_int min2_int max_two min_two max_three min_three max_four min_four
set_option linter.unusedVariables false
set_option linter.unusedSimpArgs false
def topiarylaw09_second.f  : Option (Int × Int × Int × List Int × Int × Int × Int × Int × Int × Int × Int × ByteArray × ByteArray) := some (2, 1, 1, (([1] : List Int)), 5, 1, 0, 0, 0, 0, 0, (⟨#[]⟩ : ByteArray), (⟨#[97]⟩ : ByteArray))
set_option maxHeartbeats 8000000 in
set_option maxRecDepth 100000 in
theorem topiarylaw09_second.calls  (r1 : Int) (r2 : Int) (r3 : Int) (r4 : List Int) (r5 : Int) (r6 : Int) (r7 : Int) (r8 : Int) (r9 : Int) (r10 : Int) (r11 : Int) (r12 : ByteArray) (r13 : ByteArray) (w : World) (h : topiarylaw09_second.f  = some (r1, r2, r3, r4, r5, r6, r7, r8, r9, r10, r11, r12, r13)) :
  Calls Try.prog 28 #[] w fun e w' => ∃ v3_ : Value, e = .returned (.agg #[.int .i64 r1, .int .i64 r2, .int .i64 r3, v3_, .int .i64 r5, .int .i64 r6, .int .i64 r7, .int .i64 r8, .int .i64 r9, .int .i64 r10, .int .i64 r11, .string r12, .string r13]) ∧ Kd.R (Kd.int .i64) 3 w' w.heap.size (fun _ => True) v3_ r4 ∧ Below w.heap.size w w' := by
 have hu32 := Try.underlying32
 have hu30 := Try.underlying30
 have HB := Aside0.mk (Below.refl w.heap.size w)
 have H : (some (2, 1, 1, (([1] : List Int)), 5, 1, 0, 0, 0, 0, 0, (⟨#[]⟩ : ByteArray), (⟨#[97]⟩ : ByteArray))) = some (r1, r2, r3, r4, r5, r6, r7, r8, r9, r10, r11, r12, r13) := h
 clear h
 obtain ⟨y410, hy410⟩ : ∃ y_ : List Int, y_ = (([1] : List Int)) := ⟨_, rfl⟩
 replace H : (some (2, 1, 1, y410, 5, 1, 0, 0, 0, 0, 0, (⟨#[]⟩ : ByteArray), (⟨#[97]⟩ : ByteArray))) = some (r1, r2, r3, r4, r5, r6, r7, r8, r9, r10, r11, r12, r13) := by first | (rw [hy410]; with_reducible exact H) | (have H2_ := (Option.bind_some _ _).symm.trans H; rw [hy410]; with_reducible exact H2_) | (have H2_ := (Option.bind_some _ _).symm.trans H; with_reducible exact H2_) | with_reducible exact H | (rw [hy410]; exact H) | exact H
 have Ny410 := Aside0.mk hy410
 clear hy410
 simp only [Option.some.injEq, Prod.mk.injEq] at H
 obtain ⟨rfl, rfl, rfl, rfl, rfl, rfl, rfl, rfl, rfl, rfl, rfl, rfl, rfl⟩ := H
 go_enter Try.func28, Try.ntmps28
 go_wp2_with (first | ((with_reducible refine gate_dst (N := 0) rfl ?_); refine box_event ?hg (N := 0) ?hd (cs := #[.int .i64 0, .int .i64 0, .int .i64 0, .slice none 0 0, .int .i64 0, .int .i64 0, .int .i64 0, .int .i64 0, .int .i64 0, .int .i64 0, .int .i64 0, .string (⟨#[]⟩ : ByteArray), .string (⟨#[]⟩ : ByteArray)]) (t := 32) ?hr ?_; (case hd => rfl); (case hg => rfl); (case hr => first | (go_simp; done) | (go_simp; rfl)); intro gb409 hg w1 hbox hb; have n0_ := Aside0.mk (below_step (by repeat (first | (with_reducible first | exact HB.out | apply below_alloc | apply pw_below_drewN | apply below_drew1) | exact HB.out)) hb); have n1_ := Aside0.mk (hbox); have n2_ := Aside0.mk ((by rw [hg]; exact (below_size (by repeat (first | (with_reducible first | exact HB.out | apply below_alloc | apply pw_below_drewN | apply below_drew1) | exact HB.out))) : w.heap.size ≤ gb409)); have n3_ := Aside0.mk ((by rw [hg]; exact (below_size (by repeat (first | (with_reducible first | exact HB.out | apply below_alloc | apply pw_below_drewN | apply below_drew1) | exact HB.out))) : w.heap.size ≤ gb409)); clear HB; have HB := n0_; have BK409 := n1_; have GW409 := n2_; have GE409 := n3_; clear n0_ n1_ n2_ n3_; clear hb hbox hg) | ((with_reducible refine gate_dst (N := 2) rfl ?_); refine Kd.R_lit (Kd.int .i64) _ 3 ?hg (N := 2) ?hd (xs := ([1] : List Int)) (inner := [.int .i64 1]) (ok := fun _ => True) (okp := fun _ => True) ?hr ?hp (fun _ hk => hk) trivial (Below.refl _ _) (Nat.le_refl _) (by simp) ?_; (case hd => rfl); (case hg => rfl); (case hr => first | (go_simp; done) | (go_simp; rfl)); (case hp => exact (Reps.one (show Kd.M (Kd.int .i64) _ _ _ 1 [.int .i64 1] from rfl) (Reps.none _ _))); intro v411 w2 ho3 hb hg_ hnew_; clear hg_ hnew_; (first | rw [← Ny410.out] at ho3 | (simp only [Int.reduceToNat] at ho3; rw [← Ny410.out] at ho3)); have n0_ := Aside0.mk (Kd.R_lower ho3 (below_size (by repeat (first | (with_reducible first | exact HB.out | apply below_alloc | apply pw_below_drewN | apply below_drew1 | refine below_set ?_ GE409.out) | exact HB.out)))); have n1_ := Aside0.mk (blk_below (g := gb409) (o := .cells #[.int .i64 0, .int .i64 0, .int .i64 0, .slice none 0 0, .int .i64 0, .int .i64 0, .int .i64 0, .int .i64 0, .int .i64 0, .int .i64 0, .int .i64 0, .string (⟨#[]⟩ : ByteArray), .string (⟨#[]⟩ : ByteArray)] 32 (0, 0)) (by (with_reducible repeat (first | refine blk_drewN ?_ _ | refine blk_drew ?_ | refine blk_alloc ?_ _)); exact BK409.out) hb); have n2_ := Aside0.mk (below_step (by repeat (first | (with_reducible first | exact HB.out | apply below_alloc | apply pw_below_drewN | apply below_drew1 | refine below_set ?_ GE409.out) | exact HB.out)) hb); clear BK409; clear HB; have HO412 := n0_; have BK409 := n1_; have HB := n2_; clear n0_ n1_ n2_; clear hb ho3; obtain ⟨Ao4, co4, eo4⟩ := Kd.R_slice HO412.out; subst eo4; obtain ⟨hcz5_0, hcz5_1, hcz5_2, hcz5_3, hcz5_4, hcz5_5, hcz5_6, hcz5_7, hcz5_8, hcz5_9, hcz5_10, hcz5_11, hcz5_12⟩ := cells13 BK409.out; obtain ⟨hfz5_0, hfz5_1, hfz5_2, hfz5_3, hfz5_4, hfz5_5, hfz5_6, hfz5_7, hfz5_8, hfz5_9, hfz5_10, hfz5_11, hfz5_12⟩ := froz13 BK409.out))
 refine bodyPost_ret (results_cell_row rfl _ _ gb409 32 #[.int .i64 2, .int .i64 1, .int .i64 1, .slice Ao4 y410.length co4, .int .i64 5, .int .i64 1, .int .i64 0, .int .i64 0, .int .i64 0, .int .i64 0, .int .i64 0, .string (⟨#[]⟩ : ByteArray), .string (⟨#[97]⟩ : ByteArray)] (0, 0) _ rfl (by (with_reducible repeat (first | refine blk_drewN ?_ _ | refine blk_drew ?_ | refine blk_alloc ?_ _)); refine blk_put (cs := #[.int .i64 2, .int .i64 1, .int .i64 1, .slice Ao4 y410.length co4, .int .i64 5, .int .i64 1, .int .i64 0, .int .i64 0, .int .i64 0, .int .i64 0, .int .i64 0, .string (⟨#[]⟩ : ByteArray), .string (⟨#[]⟩ : ByteArray)]) ?_ 12 _ rfl; (with_reducible repeat (first | refine blk_drewN ?_ _ | refine blk_drew ?_ | refine blk_alloc ?_ _)); refine blk_put (cs := #[.int .i64 2, .int .i64 1, .int .i64 1, .slice Ao4 y410.length co4, .int .i64 5, .int .i64 1, .int .i64 0, .int .i64 0, .int .i64 0, .int .i64 0, .int .i64 0, .string (⟨#[]⟩ : ByteArray), .string (⟨#[]⟩ : ByteArray)]) ?_ 11 _ rfl; (with_reducible repeat (first | refine blk_drewN ?_ _ | refine blk_drew ?_ | refine blk_alloc ?_ _)); refine blk_put (cs := #[.int .i64 2, .int .i64 1, .int .i64 1, .slice Ao4 y410.length co4, .int .i64 5, .int .i64 1, .int .i64 0, .int .i64 0, .int .i64 0, .int .i64 0, .int .i64 0, .string (⟨#[]⟩ : ByteArray), .string (⟨#[]⟩ : ByteArray)]) ?_ 10 _ rfl; (with_reducible repeat (first | refine blk_drewN ?_ _ | refine blk_drew ?_ | refine blk_alloc ?_ _)); refine blk_put (cs := #[.int .i64 2, .int .i64 1, .int .i64 1, .slice Ao4 y410.length co4, .int .i64 5, .int .i64 1, .int .i64 0, .int .i64 0, .int .i64 0, .int .i64 0, .int .i64 0, .string (⟨#[]⟩ : ByteArray), .string (⟨#[]⟩ : ByteArray)]) ?_ 9 _ rfl; (with_reducible repeat (first | refine blk_drewN ?_ _ | refine blk_drew ?_ | refine blk_alloc ?_ _)); refine blk_put (cs := #[.int .i64 2, .int .i64 1, .int .i64 1, .slice Ao4 y410.length co4, .int .i64 5, .int .i64 1, .int .i64 0, .int .i64 0, .int .i64 0, .int .i64 0, .int .i64 0, .string (⟨#[]⟩ : ByteArray), .string (⟨#[]⟩ : ByteArray)]) ?_ 8 _ rfl; (with_reducible repeat (first | refine blk_drewN ?_ _ | refine blk_drew ?_ | refine blk_alloc ?_ _)); refine blk_put (cs := #[.int .i64 2, .int .i64 1, .int .i64 1, .slice Ao4 y410.length co4, .int .i64 5, .int .i64 1, .int .i64 0, .int .i64 0, .int .i64 0, .int .i64 0, .int .i64 0, .string (⟨#[]⟩ : ByteArray), .string (⟨#[]⟩ : ByteArray)]) ?_ 7 _ rfl; (with_reducible repeat (first | refine blk_drewN ?_ _ | refine blk_drew ?_ | refine blk_alloc ?_ _)); refine blk_put (cs := #[.int .i64 2, .int .i64 1, .int .i64 1, .slice Ao4 y410.length co4, .int .i64 5, .int .i64 1, .int .i64 0, .int .i64 0, .int .i64 0, .int .i64 0, .int .i64 0, .string (⟨#[]⟩ : ByteArray), .string (⟨#[]⟩ : ByteArray)]) ?_ 6 _ rfl; (with_reducible repeat (first | refine blk_drewN ?_ _ | refine blk_drew ?_ | refine blk_alloc ?_ _)); refine blk_put (cs := #[.int .i64 2, .int .i64 1, .int .i64 1, .slice Ao4 y410.length co4, .int .i64 5, .int .i64 0, .int .i64 0, .int .i64 0, .int .i64 0, .int .i64 0, .int .i64 0, .string (⟨#[]⟩ : ByteArray), .string (⟨#[]⟩ : ByteArray)]) ?_ 5 _ rfl; (with_reducible repeat (first | refine blk_drewN ?_ _ | refine blk_drew ?_ | refine blk_alloc ?_ _)); refine blk_put (cs := #[.int .i64 2, .int .i64 1, .int .i64 1, .slice Ao4 y410.length co4, .int .i64 0, .int .i64 0, .int .i64 0, .int .i64 0, .int .i64 0, .int .i64 0, .int .i64 0, .string (⟨#[]⟩ : ByteArray), .string (⟨#[]⟩ : ByteArray)]) ?_ 4 _ rfl; (with_reducible repeat (first | refine blk_drewN ?_ _ | refine blk_drew ?_ | refine blk_alloc ?_ _)); refine blk_put (cs := #[.int .i64 2, .int .i64 1, .int .i64 1, .slice none 0 0, .int .i64 0, .int .i64 0, .int .i64 0, .int .i64 0, .int .i64 0, .int .i64 0, .int .i64 0, .string (⟨#[]⟩ : ByteArray), .string (⟨#[]⟩ : ByteArray)]) ?_ 3 _ rfl; (with_reducible repeat (first | refine blk_drewN ?_ _ | refine blk_drew ?_ | refine blk_alloc ?_ _)); refine blk_put (cs := #[.int .i64 2, .int .i64 1, .int .i64 0, .slice none 0 0, .int .i64 0, .int .i64 0, .int .i64 0, .int .i64 0, .int .i64 0, .int .i64 0, .int .i64 0, .string (⟨#[]⟩ : ByteArray), .string (⟨#[]⟩ : ByteArray)]) ?_ 2 _ rfl; (with_reducible repeat (first | refine blk_drewN ?_ _ | refine blk_drew ?_ | refine blk_alloc ?_ _)); refine blk_put (cs := #[.int .i64 2, .int .i64 0, .int .i64 0, .slice none 0 0, .int .i64 0, .int .i64 0, .int .i64 0, .int .i64 0, .int .i64 0, .int .i64 0, .int .i64 0, .string (⟨#[]⟩ : ByteArray), .string (⟨#[]⟩ : ByteArray)]) ?_ 1 _ rfl; (with_reducible repeat (first | refine blk_drewN ?_ _ | refine blk_drew ?_ | refine blk_alloc ?_ _)); refine blk_put (cs := #[.int .i64 0, .int .i64 0, .int .i64 0, .slice none 0 0, .int .i64 0, .int .i64 0, .int .i64 0, .int .i64 0, .int .i64 0, .int .i64 0, .int .i64 0, .string (⟨#[]⟩ : ByteArray), .string (⟨#[]⟩ : ByteArray)]) ?_ 0 _ rfl; (with_reducible repeat (first | refine blk_drewN ?_ _ | refine blk_drew ?_ | refine blk_alloc ?_ _)); exact BK409.out) Try.underlying32 rfl (by kernel_rfl)) rfl ?_
 exact ⟨_, by first | rfl | (simp [errW_none, errW_some] <;> rfl) | (simp [*, errW_none, errW_some] <;> rfl), by (with_reducible repeat (first | apply Kd.R_alloc | apply Kd.R_drewN | apply Kd.R_drew)); exact Kd.R_mono (Kd.R_far (p := ⟨gb409, 12, none⟩) (Kd.R_far (p := ⟨gb409, 11, none⟩) (Kd.R_far (p := ⟨gb409, 10, none⟩) (Kd.R_far (p := ⟨gb409, 9, none⟩) (Kd.R_far (p := ⟨gb409, 8, none⟩) (Kd.R_far (p := ⟨gb409, 7, none⟩) (Kd.R_far (p := ⟨gb409, 6, none⟩) (Kd.R_far (p := ⟨gb409, 5, none⟩) (Kd.R_far (p := ⟨gb409, 4, none⟩) (Kd.R_far (p := ⟨gb409, 3, none⟩) (Kd.R_far (p := ⟨gb409, 2, none⟩) (Kd.R_far (p := ⟨gb409, 1, none⟩) (Kd.R_far (p := ⟨gb409, 0, none⟩) (Kd.R_types HO412.out BK409.out (by decide)) (fun _ hk => hk.2) (.int .i64 2)) (fun _ hk => hk.2) (.int .i64 1)) (fun _ hk => hk.2) (.int .i64 1)) (fun _ hk => hk.2) (.slice Ao4 y410.length co4)) (fun _ hk => hk.2) (.int .i64 5)) (fun _ hk => hk.2) (.int .i64 1)) (fun _ hk => hk.2) (.int .i64 0)) (fun _ hk => hk.2) (.int .i64 0)) (fun _ hk => hk.2) (.int .i64 0)) (fun _ hk => hk.2) (.int .i64 0)) (fun _ hk => hk.2) (.int .i64 0)) (fun _ hk => hk.2) (.string (⟨#[]⟩ : ByteArray))) (fun _ hk => hk.2) (.string (⟨#[97]⟩ : ByteArray))) (fun _ hk => trivial), by repeat (first | (with_reducible first | exact HB.out | apply below_alloc | apply pw_below_drewN | apply below_drew1 | refine below_set ?_ GE409.out) | exact HB.out)⟩
def topiarylaw09_first.f  : Option (Int × Int × Int × List Int × Int × Int × Int × Int × Int × Int × Int × ByteArray × ByteArray) := some (1, 0, 1, ([] : List Int), 1, 1, 0, 0, 0, 0, 0, (⟨#[112]⟩ : ByteArray), (⟨#[]⟩ : ByteArray))
set_option maxHeartbeats 8000000 in
set_option maxRecDepth 100000 in
theorem topiarylaw09_first.calls  (r1 : Int) (r2 : Int) (r3 : Int) (r4 : List Int) (r5 : Int) (r6 : Int) (r7 : Int) (r8 : Int) (r9 : Int) (r10 : Int) (r11 : Int) (r12 : ByteArray) (r13 : ByteArray) (w : World) (h : topiarylaw09_first.f  = some (r1, r2, r3, r4, r5, r6, r7, r8, r9, r10, r11, r12, r13)) :
  Calls Try.prog 29 #[] w fun e w' => ∃ v3_ : Value, e = .returned (.agg #[.int .i64 r1, .int .i64 r2, .int .i64 r3, v3_, .int .i64 r5, .int .i64 r6, .int .i64 r7, .int .i64 r8, .int .i64 r9, .int .i64 r10, .int .i64 r11, .string r12, .string r13]) ∧ Kd.R (Kd.int .i64) 3 w' w.heap.size (fun _ => True) v3_ r4 ∧ Below w.heap.size w w' := by
 have hu32 := Try.underlying32
 have hu30 := Try.underlying30
 have HB := Aside0.mk (Below.refl w.heap.size w)
 have H : (some (1, 0, 1, ([] : List Int), 1, 1, 0, 0, 0, 0, 0, (⟨#[112]⟩ : ByteArray), (⟨#[]⟩ : ByteArray))) = some (r1, r2, r3, r4, r5, r6, r7, r8, r9, r10, r11, r12, r13) := h
 clear h
 simp only [Option.some.injEq, Prod.mk.injEq] at H
 obtain ⟨rfl, rfl, rfl, rfl, rfl, rfl, rfl, rfl, rfl, rfl, rfl, rfl, rfl⟩ := H
 go_enter Try.func29, Try.ntmps29
 go_wp2_with (first | ((with_reducible refine gate_dst (N := 0) rfl ?_); refine box_event ?hg (N := 0) ?hd (cs := #[.int .i64 0, .int .i64 0, .int .i64 0, .slice none 0 0, .int .i64 0, .int .i64 0, .int .i64 0, .int .i64 0, .int .i64 0, .int .i64 0, .int .i64 0, .string (⟨#[]⟩ : ByteArray), .string (⟨#[]⟩ : ByteArray)]) (t := 32) ?hr ?_; (case hd => rfl); (case hg => rfl); (case hr => first | (go_simp; done) | (go_simp; rfl)); intro gb413 hg w1 hbox hb; have n0_ := Aside0.mk (below_step (by repeat (first | (with_reducible first | exact HB.out | apply below_alloc | apply pw_below_drewN | apply below_drew1) | exact HB.out)) hb); have n1_ := Aside0.mk (hbox); have n2_ := Aside0.mk ((by rw [hg]; exact (below_size (by repeat (first | (with_reducible first | exact HB.out | apply below_alloc | apply pw_below_drewN | apply below_drew1) | exact HB.out))) : w.heap.size ≤ gb413)); have n3_ := Aside0.mk ((by rw [hg]; exact (below_size (by repeat (first | (with_reducible first | exact HB.out | apply below_alloc | apply pw_below_drewN | apply below_drew1) | exact HB.out))) : w.heap.size ≤ gb413)); clear HB; have HB := n0_; have BK413 := n1_; have GW413 := n2_; have GE413 := n3_; clear n0_ n1_ n2_ n3_; clear hb hbox hg) | ((with_reducible refine gate_dst (N := 1) rfl ?_); refine box_event ?hg (N := 1) ?hd (cs := #[.int .i64 0, .int .i64 0]) (t := 30) ?hr ?_; (case hd => rfl); (case hg => rfl); (case hr => first | (go_simp; done) | (go_simp; rfl)); intro gb414 hg w2 hbox hb; have n0_ := Aside0.mk (blk_below (g := gb413) (o := .cells #[.int .i64 0, .int .i64 0, .int .i64 0, .slice none 0 0, .int .i64 0, .int .i64 0, .int .i64 0, .int .i64 0, .int .i64 0, .int .i64 0, .int .i64 0, .string (⟨#[]⟩ : ByteArray), .string (⟨#[]⟩ : ByteArray)] 32 (0, 0)) (by (with_reducible repeat (first | refine blk_drewN ?_ _ | refine blk_drew ?_ | refine blk_alloc ?_ _)); exact BK413.out) hb); have n1_ := Aside0.mk (below_step (by repeat (first | (with_reducible first | exact HB.out | apply below_alloc | apply pw_below_drewN | apply below_drew1 | refine below_set ?_ GE413.out) | exact HB.out)) hb); have n2_ := Aside0.mk (hbox); have n3_ := Aside0.mk ((by rw [hg]; exact (below_size (by repeat (first | (with_reducible first | exact HB.out | apply below_alloc | apply pw_below_drewN | apply below_drew1 | refine below_set ?_ GE413.out) | exact HB.out))) : w.heap.size ≤ gb414)); have n4_ := Aside0.mk ((by rw [hg]; exact (below_size (by repeat (first | (with_reducible first | exact HB.out | apply below_alloc | apply pw_below_drewN | apply below_drew1 | refine below_set ?_ GE413.out) | exact HB.out))) : w.heap.size ≤ gb414)); have n5_ := Aside0.mk ((by rw [hg]; exact Nat.ne_of_lt (blk_lt (g := gb413) (o := .cells #[.int .i64 0, .int .i64 0, .int .i64 0, .slice none 0 0, .int .i64 0, .int .i64 0, .int .i64 0, .int .i64 0, .int .i64 0, .int .i64 0, .int .i64 0, .string (⟨#[]⟩ : ByteArray), .string (⟨#[]⟩ : ByteArray)] 32 (0, 0)) (by (with_reducible repeat (first | refine blk_drewN ?_ _ | refine blk_drew ?_ | refine blk_alloc ?_ _)); exact BK413.out)) : gb413 ≠ gb414)); have n6_ := Aside0.mk ((by rw [hg]; exact Nat.ne_of_gt (blk_lt (g := gb413) (o := .cells #[.int .i64 0, .int .i64 0, .int .i64 0, .slice none 0 0, .int .i64 0, .int .i64 0, .int .i64 0, .int .i64 0, .int .i64 0, .int .i64 0, .int .i64 0, .string (⟨#[]⟩ : ByteArray), .string (⟨#[]⟩ : ByteArray)] 32 (0, 0)) (by (with_reducible repeat (first | refine blk_drewN ?_ _ | refine blk_drew ?_ | refine blk_alloc ?_ _)); exact BK413.out)) : gb414 ≠ gb413)); clear BK413; clear HB; have BK413 := n0_; have HB := n1_; have BK414 := n2_; have GW414 := n3_; have GE414 := n4_; have NB413_414 := n5_; have NB414_413 := n6_; clear n0_ n1_ n2_ n3_ n4_ n5_ n6_; clear hb hbox hg; have hnb3 := NB414_413.out; have hnc3 := NB413_414.out; have hcz4_0 : w2.cell? ⟨gb414, 0, none⟩ = some (.int .i64 0) := (blk_cell BK414.out 0).trans rfl; have hcz4_1 : w2.cell? ⟨gb414, 1, none⟩ = some (.int .i64 0) := (blk_cell BK414.out 1).trans rfl; have hfz4_0 := blk_frozen BK414.out 0; have hfz4_1 := blk_frozen BK414.out 1; obtain ⟨hcz5_0, hcz5_1, hcz5_2, hcz5_3, hcz5_4, hcz5_5, hcz5_6, hcz5_7, hcz5_8, hcz5_9, hcz5_10, hcz5_11, hcz5_12⟩ := cells13 BK413.out; obtain ⟨hfz5_0, hfz5_1, hfz5_2, hfz5_3, hfz5_4, hfz5_5, hfz5_6, hfz5_7, hfz5_8, hfz5_9, hfz5_10, hfz5_11, hfz5_12⟩ := froz13 BK413.out))
 refine bodyPost_ret (results_cell_row rfl _ _ gb413 32 #[.int .i64 1, .int .i64 0, .int .i64 1, .slice none 0 0, .int .i64 1, .int .i64 1, .int .i64 0, .int .i64 0, .int .i64 0, .int .i64 0, .int .i64 0, .string (⟨#[112]⟩ : ByteArray), .string (⟨#[]⟩ : ByteArray)] (0, 0) _ rfl (by (with_reducible repeat (first | refine blk_drewN ?_ _ | refine blk_drew ?_ | refine blk_alloc ?_ _)); refine blk_put (cs := #[.int .i64 1, .int .i64 0, .int .i64 1, .slice none 0 0, .int .i64 1, .int .i64 1, .int .i64 0, .int .i64 0, .int .i64 0, .int .i64 0, .int .i64 0, .string (⟨#[112]⟩ : ByteArray), .string (⟨#[]⟩ : ByteArray)]) ?_ 12 _ rfl; (with_reducible repeat (first | refine blk_drewN ?_ _ | refine blk_drew ?_ | refine blk_alloc ?_ _)); refine blk_put (cs := #[.int .i64 1, .int .i64 0, .int .i64 1, .slice none 0 0, .int .i64 1, .int .i64 1, .int .i64 0, .int .i64 0, .int .i64 0, .int .i64 0, .int .i64 0, .string (⟨#[]⟩ : ByteArray), .string (⟨#[]⟩ : ByteArray)]) ?_ 11 _ rfl; (with_reducible repeat (first | refine blk_drewN ?_ _ | refine blk_drew ?_ | refine blk_alloc ?_ _)); refine blk_put (cs := #[.int .i64 1, .int .i64 0, .int .i64 1, .slice none 0 0, .int .i64 1, .int .i64 1, .int .i64 0, .int .i64 0, .int .i64 0, .int .i64 0, .int .i64 0, .string (⟨#[]⟩ : ByteArray), .string (⟨#[]⟩ : ByteArray)]) ?_ 10 _ rfl; (with_reducible repeat (first | refine blk_drewN ?_ _ | refine blk_drew ?_ | refine blk_alloc ?_ _)); refine blk_put (cs := #[.int .i64 1, .int .i64 0, .int .i64 1, .slice none 0 0, .int .i64 1, .int .i64 1, .int .i64 0, .int .i64 0, .int .i64 0, .int .i64 0, .int .i64 0, .string (⟨#[]⟩ : ByteArray), .string (⟨#[]⟩ : ByteArray)]) ?_ 9 _ rfl; (with_reducible repeat (first | refine blk_drewN ?_ _ | refine blk_drew ?_ | refine blk_alloc ?_ _)); refine blk_put (cs := #[.int .i64 1, .int .i64 0, .int .i64 1, .slice none 0 0, .int .i64 1, .int .i64 1, .int .i64 0, .int .i64 0, .int .i64 0, .int .i64 0, .int .i64 0, .string (⟨#[]⟩ : ByteArray), .string (⟨#[]⟩ : ByteArray)]) ?_ 8 _ rfl; (with_reducible repeat (first | refine blk_drewN ?_ _ | refine blk_drew ?_ | refine blk_alloc ?_ _)); refine blk_put (cs := #[.int .i64 1, .int .i64 0, .int .i64 1, .slice none 0 0, .int .i64 1, .int .i64 1, .int .i64 0, .int .i64 0, .int .i64 0, .int .i64 0, .int .i64 0, .string (⟨#[]⟩ : ByteArray), .string (⟨#[]⟩ : ByteArray)]) ?_ 7 _ rfl; (with_reducible repeat (first | refine blk_drewN ?_ _ | refine blk_drew ?_ | refine blk_alloc ?_ _)); refine blk_put (cs := #[.int .i64 1, .int .i64 0, .int .i64 1, .slice none 0 0, .int .i64 1, .int .i64 1, .int .i64 0, .int .i64 0, .int .i64 0, .int .i64 0, .int .i64 0, .string (⟨#[]⟩ : ByteArray), .string (⟨#[]⟩ : ByteArray)]) ?_ 6 _ rfl; (with_reducible repeat (first | refine blk_drewN ?_ _ | refine blk_drew ?_ | refine blk_alloc ?_ _)); refine blk_put (cs := #[.int .i64 1, .int .i64 0, .int .i64 1, .slice none 0 0, .int .i64 1, .int .i64 0, .int .i64 0, .int .i64 0, .int .i64 0, .int .i64 0, .int .i64 0, .string (⟨#[]⟩ : ByteArray), .string (⟨#[]⟩ : ByteArray)]) ?_ 5 _ rfl; (with_reducible repeat (first | refine blk_drewN ?_ _ | refine blk_drew ?_ | refine blk_alloc ?_ _)); refine blk_put (cs := #[.int .i64 1, .int .i64 0, .int .i64 1, .slice none 0 0, .int .i64 0, .int .i64 0, .int .i64 0, .int .i64 0, .int .i64 0, .int .i64 0, .int .i64 0, .string (⟨#[]⟩ : ByteArray), .string (⟨#[]⟩ : ByteArray)]) ?_ 4 _ rfl; (with_reducible repeat (first | refine blk_drewN ?_ _ | refine blk_drew ?_ | refine blk_alloc ?_ _)); refine blk_put (cs := #[.int .i64 1, .int .i64 0, .int .i64 1, .slice none 0 0, .int .i64 0, .int .i64 0, .int .i64 0, .int .i64 0, .int .i64 0, .int .i64 0, .int .i64 0, .string (⟨#[]⟩ : ByteArray), .string (⟨#[]⟩ : ByteArray)]) ?_ 3 _ rfl; (with_reducible repeat (first | refine blk_drewN ?_ _ | refine blk_drew ?_ | refine blk_alloc ?_ _)); refine blk_put (cs := #[.int .i64 1, .int .i64 0, .int .i64 0, .slice none 0 0, .int .i64 0, .int .i64 0, .int .i64 0, .int .i64 0, .int .i64 0, .int .i64 0, .int .i64 0, .string (⟨#[]⟩ : ByteArray), .string (⟨#[]⟩ : ByteArray)]) ?_ 2 _ rfl; (with_reducible repeat (first | refine blk_drewN ?_ _ | refine blk_drew ?_ | refine blk_alloc ?_ _)); refine blk_put (cs := #[.int .i64 1, .int .i64 0, .int .i64 0, .slice none 0 0, .int .i64 0, .int .i64 0, .int .i64 0, .int .i64 0, .int .i64 0, .int .i64 0, .int .i64 0, .string (⟨#[]⟩ : ByteArray), .string (⟨#[]⟩ : ByteArray)]) ?_ 1 _ rfl; (with_reducible repeat (first | refine blk_drewN ?_ _ | refine blk_drew ?_ | refine blk_alloc ?_ _)); refine blk_put (cs := #[.int .i64 0, .int .i64 0, .int .i64 0, .slice none 0 0, .int .i64 0, .int .i64 0, .int .i64 0, .int .i64 0, .int .i64 0, .int .i64 0, .int .i64 0, .string (⟨#[]⟩ : ByteArray), .string (⟨#[]⟩ : ByteArray)]) ?_ 0 _ rfl; (with_reducible repeat (first | refine blk_drewN ?_ _ | refine blk_drew ?_ | refine blk_alloc ?_ _)); refine blk_far ?_ NB413_414.out _; (with_reducible repeat (first | refine blk_drewN ?_ _ | refine blk_drew ?_ | refine blk_alloc ?_ _)); refine blk_far ?_ NB413_414.out _; (with_reducible repeat (first | refine blk_drewN ?_ _ | refine blk_drew ?_ | refine blk_alloc ?_ _)); exact BK413.out) Try.underlying32 rfl (by kernel_rfl)) rfl ?_
 exact ⟨_, by first | rfl | (simp [errW_none, errW_some] <;> rfl) | (simp [*, errW_none, errW_some] <;> rfl), by first | exact Kd.R_nil _ _ _ _ _ | exact Kd.N_nil _ _ _ _ _ | exact Kd.V_nil _ _ _ _ _ | exact Kd.Q_nil _ _ _ _ _ | exact Kd.S_nil _ _ _ _ _, by repeat (first | (with_reducible first | exact HB.out | apply below_alloc | apply pw_below_drewN | apply below_drew1 | refine below_set ?_ GE413.out | refine below_set ?_ GE414.out) | exact HB.out)⟩
def x2 : S32 := ⟨⟨2, 1⟩, 1, [1], 5, ⟨1, 0⟩, ⟨0, 0⟩, ⟨0, 0⟩, ⟨#[]⟩, ⟨#[97]⟩⟩
def x1 : S32 := ⟨⟨1, 0⟩, 1, [], 1, ⟨1, 0⟩, ⟨0, 0⟩, ⟨0, 0⟩, ⟨#[112]⟩, ⟨#[]⟩⟩
theorem take_x2 : takeF 1 [] [] x2 = ([x2], [], 0) := by kernel_rfl
theorem take_x1 : takeF 1 [x2] [] x1 = ([], [x1, x2], 0) := by kernel_rfl
theorem check_x2 : checkX x2 = 0 := by kernel_rfl
theorem good_x2 : Good [x2] := ⟨fun y hy => by rw [List.mem_singleton.1 hy]; exact check_x2, List.pairwise_singleton _ _⟩
def Yes (w : World) (e : Ending) (w' : World) : Prop := e = .returned (.bool true) ∧ Below w.heap.size w w'
set_option maxHeartbeats 8000000 in
set_option maxRecDepth 100000 in
theorem awake_calls (w : World) : Calls Try.prog 17 #[] w (Yes w) := by
 go_enter Try.func17, Try.ntmps17
 go_wp2_with (fail)
 refine (new_calls w 1 (by decide) (by decide)).mono ?_
 rintro e w1 ⟨g, rfl, hb1, hw1⟩
 have HB1 := Aside0.mk hb1.bound
 have HW1 := Aside0.mk hw1
 clear hb1 hw1
 go_wp2_with (fail)
 refine (topiarylaw09_second.calls _ _ _ _ _ _ _ _ _ _ _ _ _ w1 rfl).mono ?_
 rintro e w2 ⟨v2, rfl, hv2, hw2⟩
 obtain ⟨A2, c2, rfl⟩ := Kd.R_slice hv2
 have HV2 := Aside0.mk (Kd.R_mono (Kd.R_bound hv2) (ok' := fun k => w1.heap.size ≤ k ∧ k < w2.heap.size) (fun k hk => ⟨hk.2.1, hk.2.2.1⟩))
 have HW2 := Aside0.mk (HW1.out.trans (hw2.mono HW1.out.size))
 have HB2 := Aside0.mk (HB1.out.below hw2)
 clear hv2 hw2
 go_wp2_with (fail)
 refine (take13_calls HB2.out Good.nil (by decide) (by decide) none 0 [] (Kd.C_nil _ _) (Nat.le_refl _) x2 A2 c2 (Kd.R_F HV2.out) (fun k hk hp => by have := hp.2; omega) (Kd.R_reads' HV2.out).2.1 (by decide)).mono ?_
 rw [take_x2]
 rintro e w3 ⟨P3, O3, v3, rfl, hb3, hs3, hp3, -, -, hk3⟩
 obtain ⟨A3, c3, rfl⟩ := Kd.S_slice hs3
 have HB3 := Aside0.mk hb3.bound
 have HP3 := Aside0.mk hp3
 have HK3 := Aside0.mk ((Kept.of_below HW2.out (fun k => w.heap.size ≤ k)).then_ hk3 (fun k hk => .inl hk.1))
 clear hb3 hs3 hp3 hk3
 go_wp2_with (go_at_call 16; refine (len_calls HB3.out).mono ?_; rintro e w4 ⟨rfl, rfl⟩)
 refine (topiarylaw09_first.calls _ _ _ _ _ _ _ _ _ _ _ _ _ w4 rfl).mono ?_
 rintro e w5 ⟨v5, rfl, hv5, hw5⟩
 obtain ⟨A5, c5, rfl⟩ := Kd.R_slice hv5
 have HV5 := Aside0.mk (Kd.R_mono (Kd.R_bound hv5) (ok' := fun k => w4.heap.size ≤ k ∧ k < w5.heap.size) (fun k hk => ⟨hk.2.1, hk.2.2.1⟩))
 have HK5 := Aside0.mk (HK3.out.below hw5)
 have HB5 := Aside0.mk (HB3.out.below hw5)
 clear hv5 hw5
 go_wp2_with (fail)
 refine (take13_calls HB5.out good_x2 (by decide) (by decide) none 0 [] (Kd.C_nil _ _) (Nat.le_refl _) x1 A5 c5 (Kd.R_F HV5.out) (fun k hk hp => by have := hp.2; omega) (Kd.R_reads' HV5.out).2.1 (by decide)).mono ?_
 rw [take_x1]
 rintro e w6 ⟨P6, O6, v6, rfl, hb6, hs6, hp6, -, -, hk6⟩
 obtain ⟨gm, cap6, rfl, -, -, -⟩ := Kd.S_form hs6 (by decide)
 have HB6 := Aside0.mk hb6
 have HW6 := Aside0.mk ((HK5.out.then_ hk6 (fun k hk => by
  rcases HP3.out k hk.1 with h | h
  ·exact .inl h.1
  ·exact .inr (Nat.le_trans HW2.out.size h))).to_below (fun _ h => h))
 obtain ⟨c6', hcl, hM, hcc, hfr⟩ := Kd.R_elem (Kd.S_R hs6) z32 0 (by decide) (by decide)
 obtain ⟨vm, rfl, hvm⟩ := chM hM
 have q1 : w6.cell? ⟨gm, 4, none⟩ = some (.int .i64 1) := hcc 4 _ rfl
 clear hb6 hs6 hp6 hk6 hcl hM hcc hfr hvm
 go_wp2_with (go_at_call 16; refine (len_calls HB6.out).mono ?_; rintro e w7 ⟨rfl, rfl⟩)
 go_ret
 exact ⟨rfl, HW6.out⟩
def topiaryref02_Same.l0 : Nat → List Int → List Int → Int → Option (Bool)
 | 0, _, _, _ => none
 | k + 1, x0, x1, x5 => if x5 < (x0.length : Int) then (if 0 ≤ x5 then (if x5 < (x1.length : Int) then (if (rd x0 x5) = (rd x1 x5) then (topiaryref02_Same.l0 k x0 x1 (wrap64 (x5 + 1))) else (some false)) else (none)) else (none)) else (some true)
def topiaryref02_Same.f (k : Nat) (l0 : List Int) (l1 : List Int) : Option (Bool) := if (l0.length : Int) = (l1.length : Int) then (topiaryref02_Same.l0 k l0 l1 0) else (some false)
set_option maxHeartbeats 8000000 in
set_option maxRecDepth 100000 in
theorem topiaryref02_Same.calls (k : Nat) (A0 : Option Addr) (c0 : Nat) (l0 : List Int) (A1 : Option Addr) (c1 : Nat) (l1 : List Int) (r : Bool) (w : World) (hr0 : Kd.C (Kd.int .i64) w A0 l0.length l0) (hc0 : l0.length ≤ c0) (hr1 : Kd.C (Kd.int .i64) w A1 l1.length l1) (hc1 : l1.length ≤ c1) (h : topiaryref02_Same.f k l0 l1 = some r) :
  Calls Try.prog 24 #[.slice A0 l0.length c0, .slice A1 l1.length c1] w fun e w' => e = .returned (.bool r) ∧ Drawn0 w w' := by
 have HR0 := Aside0.mk hr0
 have HC0 := Aside0.mk hc0
 clear hr0 hc0
 have HR1 := Aside0.mk hr1
 have HC1 := Aside0.mk hc1
 clear hr1 hc1
 have H : (if (l0.length : Int) = (l1.length : Int) then (topiaryref02_Same.l0 k l0 l1 0) else (some false)) = some r := h
 clear h
 by_cases c3 : (l0.length : Int) = (l1.length : Int)
 ·rw [if_pos c3] at H
  have c3b0 : ((l0.length : Int) == (l1.length : Int)) = true := beq_iff_eq.mpr c3
  have c3b1 : ((l0.length : Int) != (l1.length : Int)) = false := bne_eq_false_iff_eq.mpr c3
  have c3b2 : (l0.length == l1.length) = true := by first | simpa using c3 | (simp at c3 ⊢; omega)
  clear c3
  have H' := Aside0.mk H
  clear H
  go_enter Try.func24, Try.ntmps24
  go_wp2
  repeat (go_quiet (fail); try go_wp2)
  go_loopg [5] k (fun kq v5 w' => ∃ (x5_1 : Int), v5 = .int .i64 x5_1 ∧ Aside0 (topiaryref02_Same.l0 kq l0 l1 x5_1 = some r) ∧ Aside0 (kq ≤ k) ∧ Drawn0 w w')
  case atStart => exact ⟨(0), (by first | rfl | (simp; done) | (simp [*]; done)), H', ⟨Nat.le_refl _⟩, by repeat (first | exact Drawn0.refl _ | apply Drawn0.step)⟩
  case round =>
   clear H'
   (try clear c1); (try clear c2); (try clear p2); (try clear c3); (try clear c3b0); (try clear c3b1); (try clear c3b2)
   obtain ⟨x5_1, rfl, HA, HK1, ⟨m1, rfl⟩⟩ := hrel
   cases gk with
   | zero => exact absurd HA.out (by simp [topiaryref02_Same.l0])
   | succ k1 =>
    have H := HA.out
    clear HA
    simp only [topiaryref02_Same.l0] at H
    by_cases c4 : x5_1 < (l0.length : Int)
    ·rw [if_pos c4] at H
     have c4b0 : decide (x5_1 < (l0.length : Int)) = true := decide_eq_true c4
     clear c4
     by_cases c5 : 0 ≤ x5_1
     ·rw [if_pos c5] at H
      have c5b0 : decide (0 ≤ x5_1) = true := decide_eq_true c5
      clear c5
      by_cases c6 : x5_1 < (l1.length : Int)
      ·rw [if_pos c6] at H
       have c6b0 : decide (x5_1 < (l1.length : Int)) = true := decide_eq_true c6
       clear c6
       by_cases c7 : (rd l0 x5_1) = (rd l1 x5_1)
       ·rw [if_pos c7] at H
        have c7b0 : ((rd l0 x5_1) == (rd l1 x5_1)) = true := beq_iff_eq.mpr c7
        have c7b1 : ((rd l0 x5_1) != (rd l1 x5_1)) = false := bne_eq_false_iff_eq.mpr c7
        clear c7
        have H' := Aside0.mk H
        clear H
        have p121 : 0 ≤ (x5_1 : Int) := of_decide_eq_true (by first | (with_reducible assumption) | assumption)
        have q121 : x5_1 < (l0.length : Int) := of_decide_eq_true (by first | (with_reducible assumption) | assumption)
        obtain ⟨ad121, e121, hx121_0⟩ := Kd.at_int HR0.out x5_1 p121 q121
        cases e121
        replace p121 := eq_true p121
        replace q121 := eq_true q121
        have p122 : 0 ≤ (x5_1 : Int) := of_decide_eq_true (by first | (with_reducible assumption) | assumption)
        have q122 : x5_1 < (l1.length : Int) := of_decide_eq_true (by first | (with_reducible assumption) | assumption)
        obtain ⟨ad122, e122, hx122_0⟩ := Kd.at_int HR1.out x5_1 p122 q122
        cases e122
        replace p122 := eq_true p122
        replace q122 := eq_true q122
        go_wp2
        repeat (go_quiet (fail); try go_wp2)
        go_roundg k1
        case measure => have := HK1.out; omega
        case rel => exact ⟨(wrap64 (x5_1 + 1)), (by first | rfl | (simp; done) | (simp [*]; done)), H', ⟨by have := HK1.out; omega⟩, by repeat (first | exact Drawn0.refl _ | apply Drawn0.step)⟩
       ·rw [if_neg c7] at H
        have c7b0 : ((rd l0 x5_1) == (rd l1 x5_1)) = false := beq_eq_false_iff_ne.mpr c7
        have c7b1 : ((rd l0 x5_1) != (rd l1 x5_1)) = true := bne_iff_ne.mpr c7
        obtain rfl := Option.some.inj H
        have p121 : 0 ≤ (x5_1 : Int) := of_decide_eq_true (by first | (with_reducible assumption) | assumption)
        have q121 : x5_1 < (l0.length : Int) := of_decide_eq_true (by first | (with_reducible assumption) | assumption)
        obtain ⟨ad121, e121, hx121_0⟩ := Kd.at_int HR0.out x5_1 p121 q121
        cases e121
        replace p121 := eq_true p121
        replace q121 := eq_true q121
        have p122 : 0 ≤ (x5_1 : Int) := of_decide_eq_true (by first | (with_reducible assumption) | assumption)
        have q122 : x5_1 < (l1.length : Int) := of_decide_eq_true (by first | (with_reducible assumption) | assumption)
        obtain ⟨ad122, e122, hx122_0⟩ := Kd.at_int HR1.out x5_1 p122 q122
        cases e122
        replace p122 := eq_true p122
        replace q122 := eq_true q122
        go_wp2
        repeat (go_quiet (fail); try go_wp2)
        go_ret
        exact ⟨by first | rfl | (simp; done) | (simp [*]; done), by repeat (first | exact Drawn0.refl _ | apply Drawn0.step)⟩
      ·rw [if_neg c6] at H
       exact absurd H (by simp)
     ·rw [if_neg c5] at H
      exact absurd H (by simp)
    ·rw [if_neg c4] at H
     have c4b0 : decide (x5_1 < (l0.length : Int)) = false := decide_eq_false c4
     clear c4
     obtain rfl := Option.some.inj H
     go_wp2
     repeat (go_quiet (fail); try go_wp2)
     go_ret
     exact ⟨by first | rfl | (simp; done) | (simp [*]; done), by repeat (first | exact Drawn0.refl _ | apply Drawn0.step)⟩
 ·rw [if_neg c3] at H
  have c3b0 : ((l0.length : Int) == (l1.length : Int)) = false := beq_eq_false_iff_ne.mpr c3
  have c3b1 : ((l0.length : Int) != (l1.length : Int)) = true := bne_iff_ne.mpr c3
  have c3b2 : (l0.length == l1.length) = false := by first | simpa using c3 | (simp at c3 ⊢; omega)
  obtain rfl := Option.some.inj H
  go_enter Try.func24, Try.ntmps24
  go_wp2
  repeat (go_quiet (fail); try go_wp2)
  go_ret
  exact ⟨by first | rfl | (simp; done) | (simp [*]; done), by repeat (first | exact Drawn0.refl _ | apply Drawn0.step)⟩
end Go.Proofs.Ytnopjjilpgekfaa.PCa
namespace Go.Proofs.Ytnopjjilpgekfaa.PCa
open Go.RowKit Go.Proofs.YtnopjjilpgekfaaW.PrintWords Go.Proofs.YtnopjjilpgekfaaW.PrintLast Go.Proofs.YtnopjjilpgekfaaW.PrintMore
set_option linter.unusedVariables false
set_option linter.unusedSimpArgs false
/-- A law's buffer: its blocks are P, all of them the law's own. -/
structure BI (w0 W : World) (g : Nat) (room : Int) (L : List S32) (P : Nat → Prop) : Prop where
 buf : BufI W w0.heap.size P g room L
 lo : ∀ k, P k → w0.heap.size ≤ k
 hi : ∀ k, P k → k < W.heap.size
 good : Good L
 len : (L.length : Int) ≤ room
 rm : room ≤ 256
 bel : Below w0.heap.size w0 W
section
variable {w0 W W1 : World} {g : Nat} {room : Int} {L : List S32} {P : Nat → Prop}
theorem BI.below (h : BI w0 W g room L P) (hb : Below W.heap.size W W1) : BI w0 W1 g room L P :=
 ⟨h.buf.below hb, h.lo, fun k hk => Nat.lt_of_lt_of_le (h.hi k hk) hb.size, h.good, h.len, h.rm, h.bel.trans (hb.mono h.bel.size)⟩
theorem BI.new {room : Int} (hr0 : 0 ≤ room) (hr : room ≤ 256) (hb : BufI W1 W.heap.size (fun k => W.heap.size ≤ k) g room []) (hw : Below W.heap.size W W1) (h0 : Below w0.heap.size w0 W) : BI w0 W1 g room [] (fun k => W.heap.size ≤ k ∧ k < W1.heap.size) := by
 have hs := h0.size
 refine ⟨?_, fun k hk => Nat.le_trans hs hk.1, fun k hk => hk.2, Good.nil, by simpa using hr0, hr, h0.trans (hw.mono hs)⟩
 obtain ⟨mb, es, c, A, ch, h1, h2, h3, h4, h5, h6, h7, h8⟩ := hb.bound
 exact ⟨mb, es, c, A, ch, h1, by omega, h3, by omega, h5, h6, h7, Kd.S_lower h8 hs⟩
theorem BI.of_take0 (h : BI w0 W g room L P) {known : List Int} {x : S32} {e : Ending} {W' : World} (ht : TakeB W w0.heap.size P g room (takeF room L known x) e W') :
  ∃ (P' O : Nat → Prop) (v' : Value), e = .returned (.tuple #[v', .int .i64 (takeF room L known x).2.2]) ∧ BI w0 W' g room (takeF room L known x).1 P' ∧ Kd.S k32 32 W' w0.heap.size O v' (takeF room L known x).2.1 ∧ (∀ k, O k → ¬ P' k) ∧ (∀ k, O k → w0.heap.size ≤ k ∧ (P k ∨ W.heap.size ≤ k)) ∧ (∀ k, P' k → P k ∨ W.heap.size ≤ k) ∧ Kept W W' P := by
 obtain ⟨P', O, v', he, hb, hs, hp, hd, ho, hk⟩ := ht
 have hsz := h.bel.size
 refine ⟨fun k => P' k ∧ k < W'.heap.size, O, v', he, ⟨hb.bound, fun k hk' => ?_, fun k hk' => hk'.2, take_good h.good known x, take_room h.len known x, h.rm, ?_⟩, hs, fun k hk' hp' => hd k hk' hp'.1, fun k hk' => ⟨?_, ho k hk'⟩, fun k hk' => hp k hk'.1, hk⟩
 ·rcases hp k hk'.1 with h1 | h1
  ·exact h.lo k h1
  ·omega
 ·exact ((Kept.of_below h.bel (fun k => w0.heap.size ≤ k)).then_ hk (fun k hk' => .inl (h.lo k hk'))).to_below (fun _ h => h)
 ·rcases ho k hk' with h1 | h1
  ·exact h.lo k h1
  ·omega
theorem BI.of_take (h : BI w0 W g room L P) {known : List Int} {x : S32} {e : Ending} {W' : World} {Lr out : List S32} {er : Int} (hr : takeF room L known x = (Lr, out, er)) (ht : TakeB W w0.heap.size P g room (Lr, out, er) e W') :
  ∃ (P' O : Nat → Prop) (v' : Value), e = .returned (.tuple #[v', .int .i64 er]) ∧ BI w0 W' g room Lr P' ∧ Kd.S k32 32 W' w0.heap.size O v' out ∧ (∀ k, O k → ¬ P' k) ∧ (∀ k, O k → w0.heap.size ≤ k ∧ (P k ∨ W.heap.size ≤ k)) ∧ (∀ k, P' k → P k ∨ W.heap.size ≤ k) ∧ Kept W W' P := by
 have := h.of_take0 (known := known) (x := x) (e := e) (W' := W') (by rw [hr]; exact ht)
 rw [hr] at this
 exact this
end
theorem same02_self (l : List Int) : ∀ (n i k : Nat), i + n = l.length → l.length < 90000 → n < k → topiaryref02_Same.l0 k l l (i : Int) = some true := by
 intro n
 induction n with
 | zero =>
  intro i k hi hl hk
  obtain ⟨k, rfl⟩ : ∃ m, k = m + 1 := ⟨k - 1, by omega⟩
  rw [topiaryref02_Same.l0, if_neg (by omega)]
 | succ n ih =>
  intro i k hi hl hk
  obtain ⟨k, rfl⟩ : ∃ m, k = m + 1 := ⟨k - 1, by omega⟩
  rw [topiaryref02_Same.l0, if_pos (by omega), if_pos (by omega), if_pos (by omega), if_pos rfl, w1 (by omega)]
  exact ih (i + 1) k (by omega) hl (by omega)
end Go.Proofs.Ytnopjjilpgekfaa.PCa
namespace Go.Proofs.Ytnopjjilpgekfaa.PCa
open Go.RowKit Go.Proofs.YtnopjjilpgekfaaW.PrintWords Go.Proofs.YtnopjjilpgekfaaW.PrintLast Go.Proofs.YtnopjjilpgekfaaW.PrintMore
attribute [local go_sem] max2_int min2_int max_two min_two max_three min_three max_four min_four
set_option linter.unusedVariables false
set_option linter.unusedSimpArgs false
/-- Cells of rows of whole numbers in O may have been written; all else is as it was, or new. -/
structure Sp (w W : World) (O : Nat → Prop) : Prop where
 kept : Kept w W O
 typ : ∀ (k : Nat) (cs : Array Value) (t : TypeId) (fr : Nat × Nat), w.heap[k]? = some (Obj.cells cs t fr) → t ≠ 3 → W.heap[k]? = some (Obj.cells cs t fr)
 row : ∀ (k : Nat) (cs : Array Value) (fr : Nat × Nat), w.heap[k]? = some (Obj.cells cs 3 fr) → ∃ cs' : Array Value, W.heap[k]? = some (Obj.cells cs' 3 fr) ∧ cs'.size = cs.size
theorem Sp.refl (w : World) (O : Nat → Prop) : Sp w w O := ⟨Kept.refl _ _, fun _ _ _ _ h _ => h, fun _ cs _ h => ⟨cs, h, rfl⟩⟩
theorem Sp.set {w W : World} {O : Nat → Prop} (h : Sp w W O) {g : Nat} (hO : O g) {cs : Array Value} (hg : W.heap[g]? = some (.cells cs 3 (0, 0))) (i : Nat) (u : Value) : Sp w (W.setCell ⟨g, i, none⟩ u) O := by
 refine ⟨h.kept.setCell (.inl hO) u, fun k cs' t fr hk ht => ?_, fun k cs' fr hk => ?_⟩
 ·have h1 := h.typ k cs' t fr hk ht
  have hne : k ≠ g := by
   rintro rfl
   rw [hg] at h1
   injection h1 with h1
   injection h1 with _ h2 _
   exact ht h2.symm
  rw [Mem.set_other _ _ _ _ hne]
  exact h1
 ·obtain ⟨c2, h1, h2⟩ := h.row k cs' fr hk
  by_cases hne : k = g
  ·subst hne
   refine ⟨c2.setIfInBounds i u, Mem.set_heap h1 i u, by rw [Array.size_setIfInBounds, h2]⟩
  ·exact ⟨c2, (Mem.set_other _ _ _ _ hne).trans h1, h2⟩
theorem BI.kept {w0 W W1 : World} {g : Nat} {room : Int} {L : List S32} {P S : Nat → Prop} (h : BI w0 W g room L P) (hk : Kept W W1 S) (hS : ∀ k, S k → ¬ P k) (hlo : ∀ k, S k → w0.heap.size ≤ k) : BI w0 W1 g room L P :=
 ⟨h.buf.step (fun k hp hlt => hk.block k hlt (fun hs => hS k hs hp)), h.lo, fun k hp => Nat.lt_of_lt_of_le (h.hi k hp) hk.size, h.good, h.len, h.rm, ((Kept.of_below h.bel S).then_ hk (fun k hs => .inl hs)).to_below hlo⟩
/-- What the document's Take tells. -/
def RT (w : World) (P0 P1 : Nat → Prop) (room : Int) (r : List S32 × List S32 × Int) (e : Ending) (w' : World) : Prop :=
 ∃ (A1 : Option Addr) (c1 : Nat) (A2 : Option Addr) (c2 : Nat), e = .returned (.tuple #[.agg #[.int .i64 room, .slice A1 r.1.length c1], .slice A2 r.2.1.length c2, .int .i64 r.2.2]) ∧ Kd.V k32 32 w' w.heap.size (fun k => (P0 k ∨ P1 k) ∨ w.heap.size ≤ k) (.slice A1 r.1.length c1) r.1 ∧ Kd.V k32 32 w' w.heap.size (fun k => (P0 k ∨ P1 k) ∨ w.heap.size ≤ k) (.slice A2 r.2.1.length c2) r.2.1 ∧ Below w.heap.size w w'
end Go.Proofs.Ytnopjjilpgekfaa.PCa
namespace Go.Proofs.Ytnopjjilpgekfaa.PCa
open Go.RowKit Go.Proofs.YtnopjjilpgekfaaW.PrintWords Go.Proofs.YtnopjjilpgekfaaW.PrintLast Go.Proofs.YtnopjjilpgekfaaW.PrintMore
set_option linter.unusedVariables false
set_option linter.unusedSimpArgs false
abbrev bA (room : Int) (v : Value) : Array Value := #[.int .i64 room, v]
abbrev bL (room : Int) (v : Value) : List Value := [.int .i64 room, v]
theorem info52 : (Try.prog.info? 52).map (fun i => (i.zero, i.size)) = some (some (.agg #[.int .i64 0, .slice none 0 0]), 2) := by kernel_rfl
section
variable {o : Oper} {ops : Array Oper} {rest : List Oper} {a : Act} {Q : Exit → Act → World → Prop} {W : World} {room : Int} {v : Value}
theorem load52_run (ρ : Operand → Value) {p : Operand} (ho : o.op = .load 52 p) {ad : Addr} (hp : ρ p = .pointer (some ad)) (hc : ∀ j u, (bL room v)[j]? = some u → W.cell? (ad.add j) = some u) :
  (execOp ρ o).run Try.prog W = .ok (.value (.agg (bA room v))) W := by
 have e : execOp ρ o = (do let v ← Instr.loadAt 52 (ρ p); pure (.value v)) := by
  unfold execOp
  rw [ho]
 obtain ⟨i0, hi0, hzz⟩ := Option.map_eq_some_iff.1 info52
 simp only [Prod.mk.injEq] at hzz
 have hl := run_loadCells_list (P := Try.prog) W ad (bL room v) hc
 have hl2 : (loadCells ad 2).run Try.prog W = .ok (bA room v) W := hl
 rw [e, hp]
 simp [Instr.loadAt, Instr.sureAddr, loadVar, isAgg, run_underlying Try.underlying52, sizeOf, typeInfo, hi0, hzz.2, hl2]
theorem store52_run (ρ : Operand → Value) {p q : Operand} (ho : o.op = .store 52 p q) {g : Nat} (hp : ρ p = .pointer (some ⟨g, 0, none⟩)) (hq : ρ q = .agg (bA room v)) (hv : v.oneCell' = true) {cs : Array Value} (hg : W.heap[g]? = some (.cells cs 52 (0, 0))) (hs : cs.size = 2) :
  (execOp ρ o).run Try.prog W = .ok .skip (W.setRow g (bA room v)) := by
 have e : execOp ρ o = (do Instr.storeAt 52 (ρ p) (ρ q); pure .skip) := by
  unfold execOp
  rw [ho]
 obtain ⟨i0, hi0, hzz⟩ := Option.map_eq_some_iff.1 info52
 simp only [Prod.mk.injEq] at hzz
 have hone : ∀ u ∈ bL room v, u.oneCell' = true := by
  intro u hu
  simp only [bL, List.mem_cons, List.not_mem_nil, or_false] at hu
  rcases hu with rfl | rfl <;> first | rfl | exact hv
 have hst := run_storeCells_at Try.prog g 0 52 (bL room v) 0 cs W hg (by rw [hs]; exact (Nat.le_refl 2 : 0 + 0 + 2 ≤ 2)) hone
 have hrow : (cs.toList.take (0 + 0) ++ bL room v ++ cs.toList.drop (0 + 0 + (bL room v).length)).toArray = bA room v := by
  rw [List.drop_of_length_le (by rw [Array.length_toList, hs]; exact (Nat.le_refl 2 : 2 ≤ 0 + 0 + 2))]
  rfl
 rw [hrow] at hst
 have hcl : v.cells = #[v] := by
  cases v <;> first | rfl | simp [Value.oneCell'] at hv
 have hcells : (Value.agg (bA room v)).cells = bA room v := by
  unfold Value.cells
  simp [hcl]
 rw [e, hp, hq]
 simp [Instr.storeAt, Instr.sureAddr, storeVar, sizeOf, typeInfo, hi0, hzz.2, hcells, hst]
theorem load52_ev (hgd : o.guard = none) {N : Tmp} (_hd : o.dst = some N) (room : Int) (v : Value) {p : Operand} (ho : o.op = .load 52 p) {ad : Addr} (hp : a.eval p = .pointer (some ad)) (hc : ∀ j u, (bL room v)[j]? = some u → W.cell? (ad.add j) = some u)
  (h : wpList Try.prog ops Q rest (a.put o.dst (.agg (bA room v))) W) : wpList Try.prog ops Q (o :: rest) a W :=
 Kd.event_run hgd (load52_run a.eval ho hp hc) h
theorem store52_ev (hgd : o.guard = none) (hN : o.dst = none) (room : Int) (v : Value) {p q : Operand} (ho : o.op = .store 52 p q) {g : Nat} (hp : a.eval p = .pointer (some ⟨g, 0, none⟩)) (hq : a.eval q = .agg (bA room v)) (hv : v.oneCell' = true) {cs : Array Value} (hg : W.heap[g]? = some (.cells cs 52 (0, 0))) (hs : cs.size = 2)
  (h : ∀ w1, w1.heap[g]? = some (.cells (bA room v) 52 (0, 0)) → W.grownBy w1 (some g) → wpList Try.prog ops Q rest a w1) : wpList Try.prog ops Q (o :: rest) a W := by
 refine wpList_plain hgd fun K hK => ?_
 unfold Oper.wp
 rw [store52_run a.eval ho hp hq hv hg hs]
 show K (a.put o.dst undef) _
 rw [hN]
 exact hK _ _ (h _ (setRow_heap W g cs _ 52 (0, 0) hg) ⟨rfl, rfl, rfl, by simp [World.setRow], fun k hk hne => setRow_other W g k _ (fun e => hne (by rw [e]))⟩)
theorem blk52 {w : World} {g : Nat} (h : w.heap[g]? = some (.cells (bA room v) 52 (0, 0))) : ∀ j u, (bL room v)[j]? = some u → w.cell? ((⟨g, 0, none⟩ : Addr).add j) = some u := fun j u hj => by
 rw [add_at, Nat.zero_add, blk_cell h, show (bA room v)[j]? = ((bL room v).toArray)[j]? from rfl, List.getElem?_toArray]
 exact hj
end
end Go.Proofs.Ytnopjjilpgekfaa.PCa
namespace Go.Proofs.Ytnopjjilpgekfaa.PCa
open Go.RowKit Go.Proofs.YtnopjjilpgekfaaW.PrintWords Go.Proofs.YtnopjjilpgekfaaW.PrintLast Go.Proofs.YtnopjjilpgekfaaW.PrintMore
attribute [local go_sem] max2_int min2_int max_two min_two max_three min_three max_four min_four
set_option linter.unusedVariables false
set_option linter.unusedSimpArgs false
def aheadC (a b c d : Int) : Bool := rightC a b && lessC a b c d
theorem ahead_is (a b c d : Int) : topiaryref05_ahead.f a b c d = some (aheadC a b c d) := ref_ahead_is a b c d
def placedX (k1 k2 NE NZ AH PZ QZ ND LS PN AF : Bool) : Bool := if k1 then (!NE && (ND && (LS && (PN && (QZ || AF))))) else if k2 then (AH && (ND && (LS && (PN && (QZ || AF))))) else ((!NZ || AH) && (PZ && QZ))
theorem placedX_eq (a0 a1 k a5 a6 a7 a8 a9 a10 : Int) : (nodeOkC k a5 a6 a0 a1 && placeOkC k a5 a6 a7 a8 a9 a10 a0 a1) = placedX (k == 1) (k == 2) (!(a5 == a0) || (!(a6 == a1))) (!(a5 == 0) || (!(a6 == 0))) (aheadC a5 a6 a0 a1) (a7 == 0 && (a8 == 0)) (a9 == 0 && (a10 == 0)) (nodeC a7 a8) (lessC a7 a8 a0 a1) (!(a7 == a5) || (!(a8 == a6))) (aheadC a9 a10 a0 a1) := by
 unfold nodeOkC placeOkC placedX afterC
 rw [show (rightC a5 a6 && lessC a5 a6 a0 a1) = aheadC a5 a6 a0 a1 from rfl, show (rightC a9 a10 && lessC a9 a10 a0 a1) = aheadC a9 a10 a0 a1 from rfl]
 by_cases h1 : k = 1
 ·rw [if_pos h1, if_pos (Or.inl h1), if_pos (beq_iff_eq.2 h1)]
  cases (a5 == a0) <;> cases (a6 == a1) <;> cases (a7 == a5) <;> cases (a8 == a6) <;> rfl
 ·rw [if_neg h1, if_neg (fun h => h1 (beq_iff_eq.1 h))]
  by_cases h2 : k = 2
  ·rw [if_pos h2, if_pos (Or.inr h2), if_pos (beq_iff_eq.2 h2)]
   cases (a7 == a5) <;> cases (a8 == a6) <;> rfl
  ·rw [if_neg h2, if_neg (fun h => h.elim h1 h2), if_neg (fun h => h2 (beq_iff_eq.1 h))]
   cases (a5 == 0) <;> cases (a6 == 0) <;> rfl
section
variable {o : Oper} {ops : Array Oper} {rest : List Oper} {a : Act} {Q : Exit → Act → World → Prop} {W : World}
theorem info30' : (Try.prog.info? 30).map (fun i => (i.zero, i.size)) = some (some (.agg #[.int .i64 0, .int .i64 0]), 2) := by kernel_rfl
theorem store30_ev (hgd : o.guard = none) (hN : o.dst = none) (x y : Int) {p q : Operand} (ho : o.op = .store 30 p q) {g : Nat} (hp : a.eval p = .pointer (some ⟨g, 0, none⟩)) (hq : a.eval q = .agg #[.int .i64 x, .int .i64 y]) {cs : Array Value} (hg : W.heap[g]? = some (.cells cs 30 (0, 0))) (hs : cs.size = 2)
  (h : ∀ w1, w1.heap[g]? = some (.cells #[.int .i64 x, .int .i64 y] 30 (0, 0)) → W.grownBy w1 (some g) → wpList Try.prog ops Q rest a w1) : wpList Try.prog ops Q (o :: rest) a W := by
 have hrun : (execOp a.eval o).run Try.prog W = .ok .skip (W.setRow g #[.int .i64 x, .int .i64 y]) := by
  have e : execOp a.eval o = (do Instr.storeAt 30 (a.eval p) (a.eval q); pure .skip) := by
   unfold execOp
   rw [ho]
  obtain ⟨i0, hi0, hzz⟩ := Option.map_eq_some_iff.1 info30'
  simp only [Prod.mk.injEq] at hzz
  have hst := run_storeCells_at Try.prog g 0 30 [.int .i64 x, .int .i64 y] 0 cs W hg (by rw [hs]; exact (Nat.le_refl 2 : 0 + 0 + 2 ≤ 2)) (by intro u hu; simp only [List.mem_cons, List.not_mem_nil, or_false] at hu; rcases hu with rfl | rfl <;> rfl)
  rw [show (cs.toList.take (0 + 0) ++ [Value.int .i64 x, Value.int .i64 y] ++ cs.toList.drop (0 + 0 + [Value.int .i64 x, Value.int .i64 y].length)).toArray = #[.int .i64 x, .int .i64 y] from by
   rw [List.drop_of_length_le (by rw [Array.length_toList, hs]; exact (Nat.le_refl 2 : 2 ≤ 0 + 0 + 2))]
   rfl] at hst
  have hcells : (Value.agg #[.int .i64 x, .int .i64 y]).cells = #[.int .i64 x, .int .i64 y] := rfl
  rw [e, hp, hq]
  simp [Instr.storeAt, Instr.sureAddr, storeVar, sizeOf, typeInfo, hi0, hzz.2, hcells, hst]
 refine wpList_plain hgd fun K hK => ?_
 unfold Oper.wp
 rw [hrun]
 show K (a.put o.dst undef) _
 rw [hN]
 exact hK _ _ (h _ (setRow_heap W g cs _ 30 (0, 0) hg) ⟨rfl, rfl, rfl, by simp [World.setRow], fun k hk hne => setRow_other W g k _ (fun e => hne (by rw [e]))⟩)
end
theorem ch1 : ∀ (a b c d e f : Bool), (a = true) ∨ (a = false ∧ b = false) ∨ (a = false ∧ b = true ∧ c = false) ∨ (a = false ∧ b = true ∧ c = true ∧ d = false) ∨ (a = false ∧ b = true ∧ c = true ∧ d = true ∧ e = true) ∨ (a = false ∧ b = true ∧ c = true ∧ d = true ∧ e = false ∧ f = true) ∨ (a = false ∧ b = true ∧ c = true ∧ d = true ∧ e = false ∧ f = false) := by
 intro a b c d e f
 cases a <;> cases b <;> cases c <;> cases d <;> cases e <;> cases f <;> decide
theorem ch2 : ∀ (a b c d e f : Bool), (a = false) ∨ (a = true ∧ b = false) ∨ (a = true ∧ b = true ∧ c = false) ∨ (a = true ∧ b = true ∧ c = true ∧ d = false) ∨ (a = true ∧ b = true ∧ c = true ∧ d = true ∧ e = true) ∨ (a = true ∧ b = true ∧ c = true ∧ d = true ∧ e = false ∧ f = true) ∨ (a = true ∧ b = true ∧ c = true ∧ d = true ∧ e = false ∧ f = false) := by
 intro a b c d e f
 cases a <;> cases b <;> cases c <;> cases d <;> cases e <;> cases f <;> decide
theorem ch5 : ∀ (a b : Bool), (a = false) ∨ (a = true ∧ b = false) ∨ (a = true ∧ b = true) := by
 intro a b
 cases a <;> cases b <;> decide
theorem ch4 : ∀ (a b : Bool), (a = false) ∨ (a = true ∧ b = false) ∨ (a = true ∧ b = true) := by
 intro a b
 cases a <;> cases b <;> decide
attribute [local go_sem high] eqA30
set_option maxHeartbeats 8000000 in
set_option maxRecDepth 100000 in
theorem placed_calls {w : World} (a0 a1 a2 : Int) (A3 : Option Addr) (d : List Int) (c3 : Nat) (a4 : Int) (a5 a6 a7 a8 a9 a10 : Int) (s t : ByteArray) (h1 : 1 ≤ a4) :
  Calls Try.prog 71 #[.agg #[.int .i64 a0, .int .i64 a1, .int .i64 a2, .slice A3 d.length c3, .int .i64 a4, .int .i64 a5, .int .i64 a6, .int .i64 a7, .int .i64 a8, .int .i64 a9, .int .i64 a10, .string s, .string t]] w fun e w' => e = .returned (.bool (nodeOkC a4 a5 a6 a0 a1 && placeOkC a4 a5 a6 a7 a8 a9 a10 a0 a1)) ∧ Below w.heap.size w w' := by
 rw [placedX_eq]
 have hk : ((a4 == 1) = true ∧ (a4 == 2) = false ∧ decide (2 < a4) = false) ∨ ((a4 == 1) = false ∧ (a4 == 2) = true ∧ decide (2 < a4) = false) ∨ ((a4 == 1) = false ∧ (a4 == 2) = false ∧ decide (2 < a4) = true) := by
  simp only [beq_iff_eq, beq_eq_false_iff_ne, decide_eq_true_eq, decide_eq_false_iff_not]
  omega
 clear h1
 rcases hk with ⟨k1, k2, k3⟩ | ⟨k1, k2, k3⟩ | ⟨k1, k2, k3⟩
 rcases ch1 (!(a5 == a0) || (!(a6 == a1))) (nodeC a7 a8) (lessC a7 a8 a0 a1) (!(a7 == a5) || (!(a8 == a6))) (a9 == 0 && (a10 == 0)) (aheadC a9 a10 a0 a1) with h0 | ⟨h0, h1⟩ | ⟨h0, h1, h2⟩ | ⟨h0, h1, h2, h3⟩ | ⟨h0, h1, h2, h3, h4⟩ | ⟨h0, h1, h2, h3, h4, h5⟩ | ⟨h0, h1, h2, h3, h4, h5⟩
 rotate_left 7
 rcases ch2 (aheadC a5 a6 a0 a1) (nodeC a7 a8) (lessC a7 a8 a0 a1) (!(a7 == a5) || (!(a8 == a6))) (a9 == 0 && (a10 == 0)) (aheadC a9 a10 a0 a1) with h0 | ⟨h0, h1⟩ | ⟨h0, h1, h2⟩ | ⟨h0, h1, h2, h3⟩ | ⟨h0, h1, h2, h3, h4⟩ | ⟨h0, h1, h2, h3, h4, h5⟩ | ⟨h0, h1, h2, h3, h4, h5⟩
 rotate_left 7
 rcases ch4 (a7 == 0 && (a8 == 0)) (a9 == 0 && (a10 == 0)) with h0 | ⟨h0, h1⟩ | ⟨h0, h1⟩ <;> rcases ch5 (!(a5 == 0) || (!(a6 == 0))) (aheadC a5 a6 a0 a1) with g0 | ⟨g0, g1⟩ | ⟨g0, g1⟩
 all_goals rw [show (placedX (a4 == 1) (a4 == 2) (!(a5 == a0) || (!(a6 == a1))) (!(a5 == 0) || (!(a6 == 0))) (aheadC a5 a6 a0 a1) (a7 == 0 && (a8 == 0)) (a9 == 0 && (a10 == 0)) (nodeC a7 a8) (lessC a7 a8 a0 a1) (!(a7 == a5) || (!(a8 == a6))) (aheadC a9 a10 a0 a1)) = _ from by unfold placedX; simp only [*]; rfl]
 all_goals
  go_enter Try.func71, Try.ntmps71
  go_wp2_with (first | ((with_reducible refine gate_dst (N := 1) rfl ?_); refine box_event ?hg (N := 1) ?hd (cs := #[.int .i64 a0, .int .i64 a1, .int .i64 a2, .slice A3 d.length c3, .int .i64 a4, .int .i64 a5, .int .i64 a6, .int .i64 a7, .int .i64 a8, .int .i64 a9, .int .i64 a10, .string s, .string t]) (t := 32) ?hr ?_; (case hd => rfl); (case hg => rfl); (case hr => first | (go_simp; done) | (go_simp; rfl)); intro gb hr_ w0 hbox hb; have HX := Aside0.mk hbox; have HB := Aside0.mk hb; have HN := Aside0.mk (Nat.le_of_eq hr_.symm); clear hbox hb hr_) | ((with_reducible refine gate_dst (N := 3) rfl ?_); refine box_event ?hg (N := 3) ?hd (cs := #[.int .i64 0, .int .i64 0]) (t := 30) ?hr ?_; (case hd => rfl); (case hg => rfl); (case hr => first | (go_simp; done) | (go_simp; rfl)); intro gz hr_ w1 hbox hb; have HNE := Aside0.mk (Nat.lt_of_lt_of_le (blk_lt HX.out) (Nat.le_of_eq hr_.symm)); have n_ := Aside0.mk (blk_below HX.out hb); clear HX; have HX := n_; clear n_; have n_ := Aside0.mk (HB.out.trans (hb.mono HB.out.size)); have HNZ := Aside0.mk (Nat.le_trans HB.out.size (Nat.le_of_eq hr_.symm)); clear HB; have HB := n_; clear n_; have HXZ := Aside0.mk hbox; clear hbox hb hr_) | ((with_reducible refine gate_store (t := 30) (p := 3) (v := .tmp 5) rfl ?_); refine store30_ev rfl rfl 0 0 (p := .tmp 3) (q := .tmp 5) rfl (g := gz) rfl rfl HXZ.out rfl ?_; intro ws hb_ hg_; have n_ := Aside0.mk ((hg_.block gb (blk_lt HX.out) (fun h => by injection h with h; have := HNE.out; omega)).trans HX.out); clear HX HXZ; have HX := n_; clear n_; have HXZ := Aside0.mk hb_; have n_ := Aside0.mk (HB.out.grown hg_ HB.out.size (fun k hk => by injection hk with hk; rw [← hk]; exact HNZ.out)); clear HB; have HB := n_; clear n_; obtain ⟨z0, z1, z2, z3, z4, z5, z6, z7, z8, z9, z10, z11, z12⟩ := cells13 HX.out; have y0 : ws.cell? ⟨gz, 0, none⟩ = some (.int .i64 0) := (blk_cell HXZ.out 0).trans rfl; have y1 : ws.cell? ⟨gz, 1, none⟩ = some (.int .i64 0) := (blk_cell HXZ.out 1).trans rfl; clear hb_ hg_) | (go_at_call 82; refine (topiaryref05_ahead.calls _ _ _ _ _ _ (ahead_is _ _ _ _)).mono ?_; clear z0 z1 z2 z3 z4 z5 z6 z7 z8 z9 z10 z11 z12 y0 y1; rintro e w2 ⟨rfl, hb_⟩; have n_ := Aside0.mk (blk_below HX.out hb_); clear HX; have HX := n_; clear n_; have n_ := Aside0.mk (blk_below HXZ.out hb_); clear HXZ; have HXZ := n_; clear n_; have n_ := Aside0.mk (HB.out.trans (hb_.mono HB.out.size)); clear HB; have HB := n_; clear n_ hb_; obtain ⟨z0, z1, z2, z3, z4, z5, z6, z7, z8, z9, z10, z11, z12⟩ := cells13 HX.out; have y0 : w2.cell? ⟨gz, 0, none⟩ = some (.int .i64 0) := (blk_cell HXZ.out 0).trans rfl; have y1 : w2.cell? ⟨gz, 1, none⟩ = some (.int .i64 0) := (blk_cell HXZ.out 1).trans rfl) | (go_at_call 83; refine (topiaryref01_Node.calls _ _ _ _ (ref_Node_is _ _)).mono ?_; clear z0 z1 z2 z3 z4 z5 z6 z7 z8 z9 z10 z11 z12 y0 y1; rintro e w2 ⟨rfl, hb_⟩; have n_ := Aside0.mk (blk_below HX.out hb_); clear HX; have HX := n_; clear n_; have n_ := Aside0.mk (blk_below HXZ.out hb_); clear HXZ; have HXZ := n_; clear n_; have n_ := Aside0.mk (HB.out.trans (hb_.mono HB.out.size)); clear HB; have HB := n_; clear n_ hb_; obtain ⟨z0, z1, z2, z3, z4, z5, z6, z7, z8, z9, z10, z11, z12⟩ := cells13 HX.out; have y0 : w2.cell? ⟨gz, 0, none⟩ = some (.int .i64 0) := (blk_cell HXZ.out 0).trans rfl; have y1 : w2.cell? ⟨gz, 1, none⟩ = some (.int .i64 0) := (blk_cell HXZ.out 1).trans rfl) | (go_at_call 60; refine (topiaryref01_Less.calls _ _ _ _ _ _ (ref_Less_is _ _ _ _)).mono ?_; clear z0 z1 z2 z3 z4 z5 z6 z7 z8 z9 z10 z11 z12 y0 y1; rintro e w2 ⟨rfl, hb_⟩; have n_ := Aside0.mk (blk_below HX.out hb_); clear HX; have HX := n_; clear n_; have n_ := Aside0.mk (blk_below HXZ.out hb_); clear HXZ; have HXZ := n_; clear n_; have n_ := Aside0.mk (HB.out.trans (hb_.mono HB.out.size)); clear HB; have HB := n_; clear n_ hb_; obtain ⟨z0, z1, z2, z3, z4, z5, z6, z7, z8, z9, z10, z11, z12⟩ := cells13 HX.out; have y0 : w2.cell? ⟨gz, 0, none⟩ = some (.int .i64 0) := (blk_cell HXZ.out 0).trans rfl; have y1 : w2.cell? ⟨gz, 1, none⟩ = some (.int .i64 0) := (blk_cell HXZ.out 1).trans rfl))
  go_ret
  exact ⟨rfl, HB.out⟩
end Go.Proofs.Ytnopjjilpgekfaa.PCa
namespace Go.Proofs.Ytnopjjilpgekfaa.PCa
open Go.RowKit Go.Proofs.YtnopjjilpgekfaaW.PrintWords Go.Proofs.YtnopjjilpgekfaaW.PrintLast Go.Proofs.YtnopjjilpgekfaaW.PrintMore
attribute [local go_sem] max2_int min2_int max_two min_two max_three min_three max_four min_four
set_option linter.unusedVariables false
set_option linter.unusedSimpArgs false
def rta.B2 : List Nat := [0, 0, 2, 7, 15, 31]
theorem drew_below {w w1 : World} {nd : Nat} (h : w1 = w.drewN nd) : Below w.heap.size w w1 := by rw [h]; exact pw_below_drewN (Below.refl _ _) nd
theorem row_below {w w1 : World} {g : Nat} {cs : Array Value} {t : Nat} (h : Below w.heap.size w w1) (hg : w.heap.size ≤ g) (hx : w1.heap[g]? = some (.cells cs t (0, 0))) (ds : Array Value) : Below w.heap.size w (w1.setRow g ds) :=
 h.grown (row := some g) (w' := w1.setRow g ds) ⟨rfl, rfl, rfl, by simp [World.setRow], fun k hk hne => setRow_other w1 g k _ (fun e => hne (by rw [e]))⟩ h.size (fun k hk => by injection hk with hk; rw [← hk]; exact hg)
def chk.T9 : Bool × List (List Nat × List Nat) := (true, [([], []), ([0], [0]), ([1], [1]), ([2], [2]), ([], []), ([4], [4]), ([5], [5]), ([3, 6], [3, 6]), ([7, 2], [7]), ([8], [8]), ([9, 8], [8, 9]), ([8], [8]), ([11, 8], [8, 11]), ([12, 8], [8, 12]), ([10, 13, 8, 8], [8, 10, 13]), ([8], [8]), ([15, 8], [8, 15]), ([16, 8], [8, 16]), ([14, 17, 8], [8, 14, 17]), ([8, 18], [8, 18]), ([19, 14], [19]), ([20], [20]), ([21, 20, 20], [20, 21]), ([22, 20], [20, 22]), ([20, 23], [20, 23])])
def chk.B9 : List Nat := [0, 1, 3, 7, 0, 16, 48, 127, 255, 511, 1023, 511, 2559, 6655, 16383, 511, 33279, 98815, 262143, 524287, 1048575, 2097151, 4194303, 8388607, 16777215]
theorem chk.tab9 : rtab .any (opsOf Try.f47 9) = chk.T9 := by kernel_rfl
theorem chk.bits9 : waitsOk chk.T9.2 chk.B9 = true := by kernel_rfl
theorem bne_f {l : List UInt8} {b : Bool} (h : (l != ([] : List UInt8)) = b) : (l == ([] : List UInt8)) = !b := by rw [← h, bne, Bool.not_not]
def wordsY (k1 k3 k4 k5 nm se lg te : Bool) : Int := if (k1 || (k3 || k4)) = true then (if nm = true then (if lg = true then 3 else if (k3 || k5) = true then 0 else if te = true then 2 else 0) else 8) else (if se = true then 8 else (if lg = true then 3 else if (k3 || k5) = true then 0 else if te = true then 2 else 0))
def checkY (b1 b2 b3 b4 b5 b6 b7 b8 pb : Bool) (cd wd : Int) : Int := if b1 = true then 1 else if b2 = true then 1 else if b3 = true then (if b4 = true then 1 else if b5 = true then 1 else if b6 = true then cd else if b7 = true then 2 else if b8 = true then 2 else if pb = true then wd else 2) else 2
theorem wordsY_eq (a4 : Int) (s t : ByteArray) : wordsC a4 s t = wordsY (a4 == 1) (a4 == 3) (a4 == 4) (a4 == 5) (nameC s) (s.toList != ([] : List UInt8)) (decide ((t.size : Int) > 256)) (t.toList != ([] : List UInt8)) := by
 unfold wordsC tailC wordsY
 simp only [Bool.or_eq_true, beq_iff_eq, decide_eq_true_eq, bne_iff_ne]
 by_cases h1 : a4 = 1 ∨ a4 = 3 ∨ a4 = 4
 ·rw [if_pos h1, if_pos h1]
  by_cases h2 : t.toList = ([] : List UInt8)
  ·simp only [h2, ne_eq, not_true_eq_false, if_true, if_false]
  ·simp only [h2, ne_eq, not_false_eq_true, if_true, if_false]
 ·rw [if_neg h1, if_neg h1]
  by_cases h2 : t.toList = ([] : List UInt8)
  ·by_cases h3 : s.toList = ([] : List UInt8) <;> simp only [h2, h3, ne_eq, not_true_eq_false, not_false_eq_true, if_true, if_false]
  ·by_cases h3 : s.toList = ([] : List UInt8) <;> simp only [h2, h3, ne_eq, not_true_eq_false, not_false_eq_true, if_true, if_false]
theorem checkY_eq (a0 a1 a2 : Int) (d : List Int) (a4 a5 a6 a7 a8 a9 a10 : Int) (s t : ByteArray) : checkC a0 a1 a2 d a4 a5 a6 a7 a8 a9 a10 s t = checkY (decide (a4 < 1)) (decide (5 < a4)) (rightC a0 a1) (decide (a2 < 1)) (decide (a0 < a2)) (chkC d != 0) ((trimC d).length != d.length) (atC d a1 != a2 - 1) (nodeOkC a4 a5 a6 a0 a1 && placeOkC a4 a5 a6 a7 a8 a9 a10 a0 a1) (chkC d) (wordsY (a4 == 1) (a4 == 3) (a4 == 4) (a4 == 5) (nameC s) (s.toList != ([] : List UInt8)) (decide ((t.size : Int) > 256)) (t.toList != ([] : List UInt8))) := by
 rw [← wordsY_eq]
 unfold checkC checkY depsC
 simp only [decide_eq_true_eq, bne_iff_ne]
 by_cases c1 : a4 < 1
 ·rw [if_pos (Or.inl c1), if_pos c1]
 ·rw [if_neg c1]
  by_cases c2 : 5 < a4
  ·rw [if_pos (Or.inr c2), if_pos c2]
  ·rw [if_neg c2, if_neg (fun h => h.elim c1 c2)]
   by_cases c3 : rightC a0 a1 = true
   ·rw [if_pos c3, if_pos c3]
    by_cases c4 : a2 < 1
    ·rw [if_pos (Or.inl c4), if_pos c4]
    ·rw [if_neg c4]
     by_cases c5 : a0 < a2
     ·rw [if_pos (Or.inr c5), if_pos c5]
     ·rw [if_neg c5, if_neg (fun h => h.elim c4 c5)]
      by_cases c6 : chkC d = 0 <;> by_cases c7 : (trimC d).length = d.length <;> by_cases c8 : atC d a1 = a2 - 1 <;> simp [c6, c7, c8]
   ·rw [if_neg c3, if_neg c3]
theorem ckA : ∀ (a b c d e f : Bool), (a = true) ∨ (a = false ∧ b = true) ∨ (a = false ∧ b = false ∧ c = false) ∨ (a = false ∧ b = false ∧ c = true ∧ d = true) ∨ (a = false ∧ b = false ∧ c = true ∧ d = false ∧ e = true) ∨ (a = false ∧ b = false ∧ c = true ∧ d = false ∧ e = false ∧ f = true) ∨ (a = false ∧ b = false ∧ c = true ∧ d = false ∧ e = false ∧ f = false) := by
 intro a b c d e f
 cases a <;> cases b <;> cases c <;> cases d <;> cases e <;> cases f <;> decide
theorem ckB : ∀ (a b : Bool), (a = true) ∨ (a = false ∧ b = true) ∨ (a = false ∧ b = false) := by
 intro a b
 cases a <;> cases b <;> decide
theorem ckC : ∀ (a b c : Bool), (a = false) ∨ (a = true ∧ b = true) ∨ (a = true ∧ b = false ∧ c = true) ∨ (a = true ∧ b = false ∧ c = false) := by
 intro a b c
 cases a <;> cases b <;> cases c <;> decide
theorem ckD : ∀ (a b : Bool), (a = false) ∨ (a = true ∧ b = true) ∨ (a = true ∧ b = false) := by
 intro a b
 cases a <;> cases b <;> decide
theorem ckE : ∀ (a b c : Bool), (a = true) ∨ (a = false ∧ b = true) ∨ (a = false ∧ b = false ∧ c = true) ∨ (a = false ∧ b = false ∧ c = false) := by
 intro a b c
 cases a <;> cases b <;> cases c <;> decide
set_option maxHeartbeats 8000000 in
set_option maxRecDepth 100000 in
theorem check05_calls {w : World} (a0 a1 a2 : Int) (A3 : Option Addr) (d : List Int) (c3 : Nat) (a4 a5 a6 a7 a8 a9 a10 : Int) (s t : ByteArray) (hd : Kd.C (Kd.int .i64) w A3 d.length d) (hl : d.length ≤ c3) (hs : s.size < 4611686018427387904) :
  Calls Try.prog 47 #[.agg #[.int .i64 a0, .int .i64 a1, .int .i64 a2, .slice A3 d.length c3, .int .i64 a4, .int .i64 a5, .int .i64 a6, .int .i64 a7, .int .i64 a8, .int .i64 a9, .int .i64 a10, .string s, .string t]] w fun e w' => e = .returned (.int .i64 (checkC a0 a1 a2 d a4 a5 a6 a7 a8 a9 a10 s t)) ∧ Below w.heap.size w w' := by
 have HC3 := Aside0.mk hd
 have HL3 := Aside0.mk hl
 have HNM := Aside0.mk (ref_Name_is s hs (s.size + 3) (by omega))
 have hu32 := Try.underlying32
 have hu30 := Try.underlying30
 have hv := checkY_eq a0 a1 a2 d a4 a5 a6 a7 a8 a9 a10 s t
 generalize checkC a0 a1 a2 d a4 a5 a6 a7 a8 a9 a10 s t = cc at *
 have HV := Aside0.mk hv.symm
 clear hd hl hs hv
 rcases ckA (decide (a4 < 1)) (decide (5 < a4)) (rightC a0 a1) (decide (a2 < 1)) (decide (a0 < a2)) (chkC d != 0) with h0 | ⟨h0, h1⟩ | ⟨h0, h1, h2⟩ | ⟨h0, h1, h2, h3⟩ | ⟨h0, h1, h2, h3, h4⟩ | ⟨h0, h1, h2, h3, h4, h5⟩ | ⟨h0, h1, h2, h3, h4, h5⟩
 iterate 6
  go_enter Try.func47, Try.ntmps47
  go_wp2_with (first | ((with_reducible refine gate_dst (N := 1) rfl ?_); refine box_event ?hg (N := 1) ?hd (cs := #[.int .i64 a0, .int .i64 a1, .int .i64 a2, .slice A3 d.length c3, .int .i64 a4, .int .i64 a5, .int .i64 a6, .int .i64 a7, .int .i64 a8, .int .i64 a9, .int .i64 a10, .string s, .string t]) (t := 32) ?hr ?_; (case hd => rfl); (case hg => rfl); (case hr => first | (go_simp; done) | (go_simp; rfl)); intro gb hr_ w2 hbox hb; have HX := Aside0.mk hbox; have HB := Aside0.mk hb; obtain ⟨z0, z1, z2, z3, z4, z5, z6, z7, z8, z9, z10, z11, z12⟩ := cells13 HX.out; clear hbox hb hr_) | (go_at_call 70; refine (topiaryref01_Right.calls _ _ _ _ (ref_Right_is _ _)).mono ?_; clear z0 z1 z2 z3 z4 z5 z6 z7 z8 z9 z10 z11 z12; rintro e w2 ⟨rfl, hb_⟩; have n_ := Aside0.mk (blk_below HX.out hb_); clear HX; have HX := n_; clear n_; have n_ := Aside0.mk (HB.out.trans (hb_.mono HB.out.size)); clear HB; have HB := n_; clear n_ hb_; obtain ⟨z0, z1, z2, z3, z4, z5, z6, z7, z8, z9, z10, z11, z12⟩ := cells13 HX.out) | (go_at_call 46; refine (topiaryref02_Check.calls 66 A3 c3 d _ _ (Kd.C_below HC3.out HB.out) HL3.out (ref_Check_is d 66 (by decide))).mono ?_; clear z0 z1 z2 z3 z4 z5 z6 z7 z8 z9 z10 z11 z12; rintro e w2 ⟨rfl, ⟨nd, hnd⟩⟩; have hb_ := drew_below hnd; clear hnd; have n_ := Aside0.mk (blk_below HX.out hb_); clear HX; have HX := n_; clear n_; have n_ := Aside0.mk (HB.out.trans (hb_.mono HB.out.size)); clear HB; have HB := n_; clear n_ hb_; obtain ⟨z0, z1, z2, z3, z4, z5, z6, z7, z8, z9, z10, z11, z12⟩ := cells13 HX.out))
  go_ret
  exact ⟨by rw [← HV.out]; simp only [checkY, wordsY, *]; rfl, HB.out⟩

 have hdl : d.length ≤ 64 := by
  have h6 : chkC d = 0 := by simpa using h5
  unfold chkC at h6
  split at h6
  ·cases h6
  ·omega
 have HTR := Aside0.mk (ref_Trim_is d 400 (by omega) (by omega))
 have HK1 : Aside0 (1 ≤ a4) := ⟨by have h1 := of_decide_eq_false h0; omega⟩
 have hw : wrap64 (a2 - 1) = a2 - 1 := by
  have h2c := h2
  have e1 := of_decide_eq_false h3
  have e2 := of_decide_eq_false h4
  have e3 := right_max h2c
  rw [← i64_w, IntKind.wrap_i64]
  omega
 have hk : ((a4 == 1) = true ∧ (a4 == 3) = false ∧ (a4 == 4) = false ∧ (a4 == 5) = false ∧ (a4 != 3) = true ∧ (a4 != 5) = true) ∨ ((a4 == 1) = false ∧ (a4 == 3) = false ∧ (a4 == 4) = true ∧ (a4 == 5) = false ∧ (a4 != 3) = true ∧ (a4 != 5) = true) ∨ ((a4 == 1) = false ∧ (a4 == 3) = true ∧ (a4 == 4) = false ∧ (a4 == 5) = false ∧ (a4 != 3) = false ∧ (a4 != 5) = true) ∨ ((a4 == 1) = false ∧ (a4 == 3) = false ∧ (a4 == 4) = false ∧ (a4 == 5) = true ∧ (a4 != 3) = true ∧ (a4 != 5) = false) ∨ ((a4 == 1) = false ∧ (a4 == 3) = false ∧ (a4 == 4) = false ∧ (a4 == 5) = false ∧ (a4 != 3) = true ∧ (a4 != 5) = true) := by
  simp only [beq_iff_eq, beq_eq_false_iff_ne, bne_iff_ne, bne_eq_false_iff_eq]
  have e1 := of_decide_eq_false h0
  have e2 := of_decide_eq_false h1
  omega
 have HKK := Aside0.mk hk
 clear hk hdl
 go_enter Try.func47, Try.ntmps47
 go_upto_region 9 with (first | ((with_reducible refine gate_dst (N := 1) rfl ?_); refine box_event ?hg (N := 1) ?hd (cs := #[.int .i64 a0, .int .i64 a1, .int .i64 a2, .slice A3 d.length c3, .int .i64 a4, .int .i64 a5, .int .i64 a6, .int .i64 a7, .int .i64 a8, .int .i64 a9, .int .i64 a10, .string s, .string t]) (t := 32) ?hr ?_; (case hd => rfl); (case hg => rfl); (case hr => first | (go_simp; done) | (go_simp; rfl)); intro gb hr_ w2 hbox hb; have HX := Aside0.mk hbox; have HB := Aside0.mk hb; obtain ⟨z0, z1, z2, z3, z4, z5, z6, z7, z8, z9, z10, z11, z12⟩ := cells13 HX.out; clear hbox hb hr_) | (go_at_call 70; refine (topiaryref01_Right.calls _ _ _ _ (ref_Right_is _ _)).mono ?_; clear z0 z1 z2 z3 z4 z5 z6 z7 z8 z9 z10 z11 z12; rintro e w2 ⟨rfl, hb_⟩; have n_ := Aside0.mk (blk_below HX.out hb_); clear HX; have HX := n_; clear n_; have n_ := Aside0.mk (HB.out.trans (hb_.mono HB.out.size)); clear HB; have HB := n_; clear n_ hb_; obtain ⟨z0, z1, z2, z3, z4, z5, z6, z7, z8, z9, z10, z11, z12⟩ := cells13 HX.out) | (go_at_call 46; refine (topiaryref02_Check.calls 66 A3 c3 d _ _ (Kd.C_below HC3.out HB.out) HL3.out (ref_Check_is d 66 (by decide))).mono ?_; clear z0 z1 z2 z3 z4 z5 z6 z7 z8 z9 z10 z11 z12; rintro e w2 ⟨rfl, ⟨nd, hnd⟩⟩; have hb_ := drew_below hnd; clear hnd; have n_ := Aside0.mk (blk_below HX.out hb_); clear HX; have HX := n_; clear n_; have n_ := Aside0.mk (HB.out.trans (hb_.mono HB.out.size)); clear HB; have HB := n_; clear n_ hb_; obtain ⟨z0, z1, z2, z3, z4, z5, z6, z7, z8, z9, z10, z11, z12⟩ := cells13 HX.out))
 obtain ⟨wo, rfl⟩ : ∃ wo, wo = w2 := ⟨w2, rfl⟩
 rcases ckB ((trimC d).length != d.length) (atC d a1 != a2 - 1) with g0 | ⟨g0, g1⟩ | ⟨g0, g1⟩
 ·have g0' : (((trimC d).length : Int) != (d.length : Int)) = true := by rw [bne_iff_ne]; have := bne_iff_ne.1 g0; omega
  refine start_ (n := 25) (S := (fun w' => Below wo.heap.size wo w')) (ds := []) #[false, false, false, false, false, false, false, false, false, false, false, false, false, false, false, false, false, false, false, false, false, false, false, false, false] (by kernel_rfl) rfl rfl (below_drew (Below.refl _ _)) (fun hHeld => ?_)
  refine with_tabW chk.tab9 chk.bits9 (fun HT_ HW_ => ?_)
  refine pureS (i := 0) (N := (some 34)) #[true, false, false, false, false, false, false, false, false, false, false, false, false, false, false, false, false, false, false, false, false, false, false, false, false] HT_ ?_
  refine pureS (i := 4) (N := (some 38)) #[true, false, false, false, true, false, false, false, false, false, false, false, false, false, false, false, false, false, false, false, false, false, false, false, false] HT_ ?_
  refine take_ (i := 1) (N := (some 35)) (v := ?_) (a' := ?_) #[true, true, false, false, true, false, false, false, false, false, false, false, false, false, false, false, false, false, false, false, false, false, false, false, false] rfl rfl (take_ofW HT_.out HW_.out (by kernel_rfl)) (fun _ _ _ h => h) (Or.inl ⟨by rfl, ?_⟩) hHeld ?_ ?_
  rotate_left
  ·intro w' s0
   have f : w'.cell? ⟨gb, 3, none⟩ = some (.slice A3 d.length c3) := (blk_cell (blk_below HX.out s0) 3).trans rfl
   go_simp
   with_reducible rfl
  rotate_left
  ·simp only [Act.put, List.setIfInBounds_toArray, List.set_cons_zero, List.set_cons_succ, i64_w, i32_w]
   rfl
  refine take_ (i := 5) (N := (some 39)) (v := ?_) (a' := ?_) #[true, true, false, false, true, true, false, false, false, false, false, false, false, false, false, false, false, false, false, false, false, false, false, false, false] rfl rfl (take_ofW HT_.out HW_.out (by kernel_rfl)) (fun _ _ _ h => h) (Or.inl ⟨by rfl, ?_⟩) hHeld ?_ ?_
  rotate_left
  ·intro w' s0
   have f : w'.cell? ⟨gb, 3, none⟩ = some (.slice A3 d.length c3) := (blk_cell (blk_below HX.out s0) 3).trans rfl
   go_simp
   with_reducible rfl
  rotate_left
  ·simp only [Act.put, List.setIfInBounds_toArray, List.set_cons_zero, List.set_cons_succ, i64_w, i32_w]
   rfl
  refine pureS (i := 6) (N := (some 40)) #[true, true, false, false, true, true, true, false, false, false, false, false, false, false, false, false, false, false, false, false, false, false, false, false, false] HT_ ?_
  refine one_ (i := 2) (N := (some 36)) #[true, true, true, false, true, true, true, false, false, false, false, false, false, false, false, false, false, false, false, false, false, false, false, false, false] rfl rfl (one_of HT_.out (by kernel_rfl)) (by decide) (fun K hK => ?_)
  refine goes_ Try.func44 (by kernel_rfl) rfl #[.slice A3 d.length c3] (by rfl) rfl rfl (by (try simp only [List.map_toArray, List.map_cons, List.map_nil]); first | done | rfl) ?_
  have hH := hHeld
  refine (topiaryref02_Trim.calls 400 A3 c3 d (trimC d) _ (Kd.C_below HC3.out (HB.out.trans (hH.mono HB.out.size))) HL3.out HTR.out).mono ?_
  rintro e w1 ⟨v1, rfl, hr1, hb_⟩
  obtain ⟨A9, c9, rfl⟩ := Kd.R_slice hr1
  clear hr1
  refine ⟨_, rfl, ?_⟩
  have hS : Below wo.heap.size wo w1 := hH.trans (hb_.mono hH.size)
  clear hb_ hH hHeld
  refine hK.out _ _ (hS) (fun hHeld => ?_)
  clear hK K
  refine norm_ (a' := ?_) ?_ ?_
  rotate_left
  ·show Act.put _ (some 36) _ = _
   simp only [Act.put, List.setIfInBounds_toArray, List.set_cons_zero, List.set_cons_succ, i64_w, i32_w]
   rfl
  refine pureS (i := 3) (N := (some 37)) #[true, true, true, true, true, true, true, false, false, false, false, false, false, false, false, false, false, false, false, false, false, false, false, false, false] HT_ ?_
  refine pureS (i := 7) (N := (some 41)) #[true, true, true, true, true, true, true, true, false, false, false, false, false, false, false, false, false, false, false, false, false, false, false, false, false] HT_ ?_
  refine pureS (i := 8) (N := (some 42)) #[true, true, true, true, true, true, true, true, true, false, false, false, false, false, false, false, false, false, false, false, false, false, false, false, false] HT_ ?_
  refine pure_ (i := 9) (N := (some 43)) (v := undef) (a' := ?_) #[true, true, true, true, true, true, true, true, true, true, false, false, false, false, false, false, false, false, false, false, false, false, false, false, false] rfl rfl (any_of HT_.out (by kernel_rfl)) (fun _ _ _ h => h) (Or.inr ⟨by rfl, rfl⟩) ?_ ?_
  rotate_left
  ·simp only [Act.put, List.setIfInBounds_toArray, List.set_cons_zero, List.set_cons_succ, i64_w, i32_w]
   rfl
  refine pure_ (i := 10) (N := (some 44)) (v := undef) (a' := ?_) #[true, true, true, true, true, true, true, true, true, true, true, false, false, false, false, false, false, false, false, false, false, false, false, false, false] rfl rfl (any_of HT_.out (by kernel_rfl)) (fun _ _ _ h => h) (Or.inr ⟨by rfl, rfl⟩) ?_ ?_
  rotate_left
  ·simp only [Act.put, List.setIfInBounds_toArray, List.set_cons_zero, List.set_cons_succ, i64_w, i32_w]
   rfl
  refine pure_ (i := 11) (N := (some 45)) (v := undef) (a' := ?_) #[true, true, true, true, true, true, true, true, true, true, true, true, false, false, false, false, false, false, false, false, false, false, false, false, false] rfl rfl (any_of HT_.out (by kernel_rfl)) (fun _ _ _ h => h) (Or.inr ⟨by rfl, rfl⟩) ?_ ?_
  rotate_left
  ·simp only [Act.put, List.setIfInBounds_toArray, List.set_cons_zero, List.set_cons_succ, i64_w, i32_w]
   rfl
  refine pure_ (i := 12) (N := (some 46)) (v := undef) (a' := ?_) #[true, true, true, true, true, true, true, true, true, true, true, true, true, false, false, false, false, false, false, false, false, false, false, false, false] rfl rfl (any_of HT_.out (by kernel_rfl)) (fun _ _ _ h => h) (Or.inr ⟨by rfl, rfl⟩) ?_ ?_
  rotate_left
  ·simp only [Act.put, List.setIfInBounds_toArray, List.set_cons_zero, List.set_cons_succ, i64_w, i32_w]
   rfl
  refine pure_ (i := 13) (N := (some 47)) (v := undef) (a' := ?_) #[true, true, true, true, true, true, true, true, true, true, true, true, true, true, false, false, false, false, false, false, false, false, false, false, false] rfl rfl (any_of HT_.out (by kernel_rfl)) (fun _ _ _ h => h) (Or.inr ⟨by rfl, rfl⟩) ?_ ?_
  rotate_left
  ·simp only [Act.put, List.setIfInBounds_toArray, List.set_cons_zero, List.set_cons_succ, i64_w, i32_w]
   rfl
  refine pure_ (i := 14) (N := (some 48)) (v := undef) (a' := ?_) #[true, true, true, true, true, true, true, true, true, true, true, true, true, true, true, false, false, false, false, false, false, false, false, false, false] rfl rfl (any_of HT_.out (by kernel_rfl)) (fun _ _ _ h => h) (Or.inr ⟨by rfl, rfl⟩) ?_ ?_
  rotate_left
  ·simp only [Act.put, List.setIfInBounds_toArray, List.set_cons_zero, List.set_cons_succ, i64_w, i32_w]
   rfl
  refine pure_ (i := 15) (N := (some 49)) (v := undef) (a' := ?_) #[true, true, true, true, true, true, true, true, true, true, true, true, true, true, true, true, false, false, false, false, false, false, false, false, false] rfl rfl (any_of HT_.out (by kernel_rfl)) (fun _ _ _ h => h) (Or.inr ⟨by rfl, rfl⟩) ?_ ?_
  rotate_left
  ·simp only [Act.put, List.setIfInBounds_toArray, List.set_cons_zero, List.set_cons_succ, i64_w, i32_w]
   rfl
  refine pure_ (i := 16) (N := (some 50)) (v := undef) (a' := ?_) #[true, true, true, true, true, true, true, true, true, true, true, true, true, true, true, true, true, false, false, false, false, false, false, false, false] rfl rfl (any_of HT_.out (by kernel_rfl)) (fun _ _ _ h => h) (Or.inr ⟨by rfl, rfl⟩) ?_ ?_
  rotate_left
  ·simp only [Act.put, List.setIfInBounds_toArray, List.set_cons_zero, List.set_cons_succ, i64_w, i32_w]
   rfl
  refine pure_ (i := 17) (N := (some 51)) (v := undef) (a' := ?_) #[true, true, true, true, true, true, true, true, true, true, true, true, true, true, true, true, true, true, false, false, false, false, false, false, false] rfl rfl (any_of HT_.out (by kernel_rfl)) (fun _ _ _ h => h) (Or.inr ⟨by rfl, rfl⟩) ?_ ?_
  rotate_left
  ·simp only [Act.put, List.setIfInBounds_toArray, List.set_cons_zero, List.set_cons_succ, i64_w, i32_w]
   rfl
  refine pure_ (i := 18) (N := (some 52)) (v := undef) (a' := ?_) #[true, true, true, true, true, true, true, true, true, true, true, true, true, true, true, true, true, true, true, false, false, false, false, false, false] rfl rfl (any_of HT_.out (by kernel_rfl)) (fun _ _ _ h => h) (Or.inr ⟨by rfl, rfl⟩) ?_ ?_
  rotate_left
  ·simp only [Act.put, List.setIfInBounds_toArray, List.set_cons_zero, List.set_cons_succ, i64_w, i32_w]
   rfl
  refine pureS (i := 19) (N := (some 53)) #[true, true, true, true, true, true, true, true, true, true, true, true, true, true, true, true, true, true, true, true, false, false, false, false, false] HT_ ?_
  refine pureS (i := 20) (N := (some 54)) #[true, true, true, true, true, true, true, true, true, true, true, true, true, true, true, true, true, true, true, true, true, false, false, false, false] HT_ ?_
  refine pure_ (i := 21) (N := (some 55)) (v := undef) (a' := ?_) #[true, true, true, true, true, true, true, true, true, true, true, true, true, true, true, true, true, true, true, true, true, true, false, false, false] rfl rfl (any_of HT_.out (by kernel_rfl)) (fun _ _ _ h => h) (Or.inr ⟨by rfl, rfl⟩) ?_ ?_
  rotate_left
  ·simp only [Act.put, List.setIfInBounds_toArray, List.set_cons_zero, List.set_cons_succ, i64_w, i32_w]
   rfl
  refine pure_ (i := 22) (N := (some 56)) (v := undef) (a' := ?_) #[true, true, true, true, true, true, true, true, true, true, true, true, true, true, true, true, true, true, true, true, true, true, true, false, false] rfl rfl (any_of HT_.out (by kernel_rfl)) (fun _ _ _ h => h) (Or.inr ⟨by rfl, rfl⟩) ?_ ?_
  rotate_left
  ·simp only [Act.put, List.setIfInBounds_toArray, List.set_cons_zero, List.set_cons_succ, i64_w, i32_w]
   rfl
  refine pure_ (i := 23) (N := (some 57)) (v := undef) (a' := ?_) #[true, true, true, true, true, true, true, true, true, true, true, true, true, true, true, true, true, true, true, true, true, true, true, true, false] rfl rfl (any_of HT_.out (by kernel_rfl)) (fun _ _ _ h => h) (Or.inr ⟨by rfl, rfl⟩) ?_ ?_
  rotate_left
  ·simp only [Act.put, List.setIfInBounds_toArray, List.set_cons_zero, List.set_cons_succ, i64_w, i32_w]
   rfl
  refine pureS (i := 24) (N := (some 58)) #[true, true, true, true, true, true, true, true, true, true, true, true, true, true, true, true, true, true, true, true, true, true, true, true, true] HT_ ?_
  refine done_ (done_of HT_.out (by kernel_rfl)) ?_
  have n_ := Aside0.mk (blk_below HX.out hHeld); clear HX; have HX := n_; clear n_; have n_ := Aside0.mk (HB.out.trans (hHeld.mono HB.out.size)); clear HB; have HB := n_; clear n_ hHeld; clear z0 z1 z2 z3 z4 z5 z6 z7 z8 z9 z10 z11 z12; obtain ⟨z0, z1, z2, z3, z4, z5, z6, z7, z8, z9, z10, z11, z12⟩ := cells13 HX.out
  go_wp2_with (fail)
  go_ret
  exact ⟨by rw [← HV.out]; simp only [checkY, wordsY, *]; rfl, HB.out⟩
 ·have g0' : (((trimC d).length : Int) != (d.length : Int)) = false := by rw [bne_eq_false_iff_eq]; have := bne_eq_false_iff_eq.1 g0; omega
  refine start_ (n := 25) (S := (fun w' => Below wo.heap.size wo w')) (ds := []) #[false, false, false, false, false, false, false, false, false, false, false, false, false, false, false, false, false, false, false, false, false, false, false, false, false] (by kernel_rfl) rfl rfl (below_drew (Below.refl _ _)) (fun hHeld => ?_)
  refine with_tabW chk.tab9 chk.bits9 (fun HT_ HW_ => ?_)
  refine pureS (i := 0) (N := (some 34)) #[true, false, false, false, false, false, false, false, false, false, false, false, false, false, false, false, false, false, false, false, false, false, false, false, false] HT_ ?_
  refine pureS (i := 4) (N := (some 38)) #[true, false, false, false, true, false, false, false, false, false, false, false, false, false, false, false, false, false, false, false, false, false, false, false, false] HT_ ?_
  refine take_ (i := 1) (N := (some 35)) (v := ?_) (a' := ?_) #[true, true, false, false, true, false, false, false, false, false, false, false, false, false, false, false, false, false, false, false, false, false, false, false, false] rfl rfl (take_ofW HT_.out HW_.out (by kernel_rfl)) (fun _ _ _ h => h) (Or.inl ⟨by rfl, ?_⟩) hHeld ?_ ?_
  rotate_left
  ·intro w' s0
   have f : w'.cell? ⟨gb, 3, none⟩ = some (.slice A3 d.length c3) := (blk_cell (blk_below HX.out s0) 3).trans rfl
   go_simp
   with_reducible rfl
  rotate_left
  ·simp only [Act.put, List.setIfInBounds_toArray, List.set_cons_zero, List.set_cons_succ, i64_w, i32_w]
   rfl
  refine take_ (i := 5) (N := (some 39)) (v := ?_) (a' := ?_) #[true, true, false, false, true, true, false, false, false, false, false, false, false, false, false, false, false, false, false, false, false, false, false, false, false] rfl rfl (take_ofW HT_.out HW_.out (by kernel_rfl)) (fun _ _ _ h => h) (Or.inl ⟨by rfl, ?_⟩) hHeld ?_ ?_
  rotate_left
  ·intro w' s0
   have f : w'.cell? ⟨gb, 3, none⟩ = some (.slice A3 d.length c3) := (blk_cell (blk_below HX.out s0) 3).trans rfl
   go_simp
   with_reducible rfl
  rotate_left
  ·simp only [Act.put, List.setIfInBounds_toArray, List.set_cons_zero, List.set_cons_succ, i64_w, i32_w]
   rfl
  refine pureS (i := 6) (N := (some 40)) #[true, true, false, false, true, true, true, false, false, false, false, false, false, false, false, false, false, false, false, false, false, false, false, false, false] HT_ ?_
  refine one_ (i := 2) (N := (some 36)) #[true, true, true, false, true, true, true, false, false, false, false, false, false, false, false, false, false, false, false, false, false, false, false, false, false] rfl rfl (one_of HT_.out (by kernel_rfl)) (by decide) (fun K hK => ?_)
  refine goes_ Try.func44 (by kernel_rfl) rfl #[.slice A3 d.length c3] (by rfl) rfl rfl (by (try simp only [List.map_toArray, List.map_cons, List.map_nil]); first | done | rfl) ?_
  have hH := hHeld
  refine (topiaryref02_Trim.calls 400 A3 c3 d (trimC d) _ (Kd.C_below HC3.out (HB.out.trans (hH.mono HB.out.size))) HL3.out HTR.out).mono ?_
  rintro e w1 ⟨v1, rfl, hr1, hb_⟩
  obtain ⟨A9, c9, rfl⟩ := Kd.R_slice hr1
  clear hr1
  refine ⟨_, rfl, ?_⟩
  have hS : Below wo.heap.size wo w1 := hH.trans (hb_.mono hH.size)
  clear hb_ hH hHeld
  refine hK.out _ _ (hS) (fun hHeld => ?_)
  clear hK K
  refine norm_ (a' := ?_) ?_ ?_
  rotate_left
  ·show Act.put _ (some 36) _ = _
   simp only [Act.put, List.setIfInBounds_toArray, List.set_cons_zero, List.set_cons_succ, i64_w, i32_w]
   rfl
  refine pureS (i := 3) (N := (some 37)) #[true, true, true, true, true, true, true, false, false, false, false, false, false, false, false, false, false, false, false, false, false, false, false, false, false] HT_ ?_
  refine pureS (i := 7) (N := (some 41)) #[true, true, true, true, true, true, true, true, false, false, false, false, false, false, false, false, false, false, false, false, false, false, false, false, false] HT_ ?_
  refine pureS (i := 8) (N := (some 42)) #[true, true, true, true, true, true, true, true, true, false, false, false, false, false, false, false, false, false, false, false, false, false, false, false, false] HT_ ?_
  refine pureS (i := 9) (N := (some 43)) #[true, true, true, true, true, true, true, true, true, true, false, false, false, false, false, false, false, false, false, false, false, false, false, false, false] HT_ ?_
  refine pureS (i := 11) (N := (some 45)) #[true, true, true, true, true, true, true, true, true, true, false, true, false, false, false, false, false, false, false, false, false, false, false, false, false] HT_ ?_
  refine pureS (i := 12) (N := (some 46)) #[true, true, true, true, true, true, true, true, true, true, false, true, true, false, false, false, false, false, false, false, false, false, false, false, false] HT_ ?_
  refine pureS (i := 15) (N := (some 49)) #[true, true, true, true, true, true, true, true, true, true, false, true, true, false, false, true, false, false, false, false, false, false, false, false, false] HT_ ?_
  refine take_ (i := 10) (N := (some 44)) (v := ?_) (a' := ?_) #[true, true, true, true, true, true, true, true, true, true, true, true, true, false, false, true, false, false, false, false, false, false, false, false, false] rfl rfl (take_ofW HT_.out HW_.out (by kernel_rfl)) (fun _ _ _ h => h) (Or.inl ⟨by rfl, ?_⟩) hHeld ?_ ?_
  rotate_left
  ·intro w' s0
   have f : w'.cell? ⟨gb, 3, none⟩ = some (.slice A3 d.length c3) := (blk_cell (blk_below HX.out s0) 3).trans rfl
   go_simp
   with_reducible rfl
  rotate_left
  ·simp only [Act.put, List.setIfInBounds_toArray, List.set_cons_zero, List.set_cons_succ, i64_w, i32_w]
   rfl
  refine take_ (i := 13) (N := (some 47)) (v := ?_) (a' := ?_) #[true, true, true, true, true, true, true, true, true, true, true, true, true, true, false, true, false, false, false, false, false, false, false, false, false] rfl rfl (take_ofW HT_.out HW_.out (by kernel_rfl)) (fun _ _ _ h => h) (Or.inl ⟨by rfl, ?_⟩) hHeld ?_ ?_
  rotate_left
  ·intro w' s0
   have f : w'.cell? ⟨gb, 1, none⟩ = some (.int .i64 a1) := (blk_cell (blk_below HX.out s0) 1).trans rfl
   go_simp
   with_reducible rfl
  rotate_left
  ·simp only [Act.put, List.setIfInBounds_toArray, List.set_cons_zero, List.set_cons_succ, i64_w, i32_w]
   rfl
  refine take_ (i := 16) (N := (some 50)) (v := ?_) (a' := ?_) #[true, true, true, true, true, true, true, true, true, true, true, true, true, true, false, true, true, false, false, false, false, false, false, false, false] rfl rfl (take_ofW HT_.out HW_.out (by kernel_rfl)) (fun _ _ _ h => h) (Or.inl ⟨by rfl, ?_⟩) hHeld ?_ ?_
  rotate_left
  ·intro w' s0
   have f : w'.cell? ⟨gb, 2, none⟩ = some (.int .i64 a2) := (blk_cell (blk_below HX.out s0) 2).trans rfl
   go_simp
   with_reducible rfl
  rotate_left
  ·simp only [Act.put, List.setIfInBounds_toArray, List.set_cons_zero, List.set_cons_succ, i64_w, i32_w]
   rfl
  refine pureS (i := 17) (N := (some 51)) #[true, true, true, true, true, true, true, true, true, true, true, true, true, true, false, true, true, true, false, false, false, false, false, false, false] HT_ ?_
  refine one_ (i := 14) (N := (some 48)) #[true, true, true, true, true, true, true, true, true, true, true, true, true, true, true, true, true, true, false, false, false, false, false, false, false] rfl rfl (one_of HT_.out (by kernel_rfl)) (by decide) (fun K hK => ?_)
  refine goes_ Try.func49 (by kernel_rfl) rfl #[.slice A3 d.length c3, .int .i64 a1] (by rfl) rfl rfl (by (try simp only [List.map_toArray, List.map_cons, List.map_nil]); first | done | rfl) ?_
  have hH := hHeld
  refine (topiaryref02_At.calls A3 c3 d a1 _ _ (Kd.C_below HC3.out (HB.out.trans (hH.mono HB.out.size))) HL3.out (ref_At_is d a1)).mono ?_
  rintro e w1 ⟨rfl, ⟨nd, hnd⟩⟩
  have hb_ := drew_below hnd; clear hnd
  refine ⟨_, rfl, ?_⟩
  have hS : Below wo.heap.size wo w1 := hH.trans (hb_.mono hH.size)
  clear hb_ hH hHeld
  refine hK.out _ _ (hS) (fun hHeld => ?_)
  clear hK K
  refine norm_ (a' := ?_) ?_ ?_
  rotate_left
  ·show Act.put _ (some 48) _ = _
   simp only [Act.put, List.setIfInBounds_toArray, List.set_cons_zero, List.set_cons_succ, i64_w, i32_w]
   rfl
  refine pureS (i := 18) (N := (some 52)) #[true, true, true, true, true, true, true, true, true, true, true, true, true, true, true, true, true, true, true, false, false, false, false, false, false] HT_ ?_
  refine pureS (i := 19) (N := (some 53)) #[true, true, true, true, true, true, true, true, true, true, true, true, true, true, true, true, true, true, true, true, false, false, false, false, false] HT_ ?_
  refine pureS (i := 20) (N := (some 54)) #[true, true, true, true, true, true, true, true, true, true, true, true, true, true, true, true, true, true, true, true, true, false, false, false, false] HT_ ?_
  refine pure_ (i := 21) (N := (some 55)) (v := undef) (a' := ?_) #[true, true, true, true, true, true, true, true, true, true, true, true, true, true, true, true, true, true, true, true, true, true, false, false, false] rfl rfl (any_of HT_.out (by kernel_rfl)) (fun _ _ _ h => h) (Or.inr ⟨by rfl, rfl⟩) ?_ ?_
  rotate_left
  ·simp only [Act.put, List.setIfInBounds_toArray, List.set_cons_zero, List.set_cons_succ, i64_w, i32_w]
   rfl
  refine pure_ (i := 22) (N := (some 56)) (v := undef) (a' := ?_) #[true, true, true, true, true, true, true, true, true, true, true, true, true, true, true, true, true, true, true, true, true, true, true, false, false] rfl rfl (any_of HT_.out (by kernel_rfl)) (fun _ _ _ h => h) (Or.inr ⟨by rfl, rfl⟩) ?_ ?_
  rotate_left
  ·simp only [Act.put, List.setIfInBounds_toArray, List.set_cons_zero, List.set_cons_succ, i64_w, i32_w]
   rfl
  refine pure_ (i := 23) (N := (some 57)) (v := undef) (a' := ?_) #[true, true, true, true, true, true, true, true, true, true, true, true, true, true, true, true, true, true, true, true, true, true, true, true, false] rfl rfl (any_of HT_.out (by kernel_rfl)) (fun _ _ _ h => h) (Or.inr ⟨by rfl, rfl⟩) ?_ ?_
  rotate_left
  ·simp only [Act.put, List.setIfInBounds_toArray, List.set_cons_zero, List.set_cons_succ, i64_w, i32_w]
   rfl
  refine pureS (i := 24) (N := (some 58)) #[true, true, true, true, true, true, true, true, true, true, true, true, true, true, true, true, true, true, true, true, true, true, true, true, true] HT_ ?_
  refine done_ (done_of HT_.out (by kernel_rfl)) ?_
  have n_ := Aside0.mk (blk_below HX.out hHeld); clear HX; have HX := n_; clear n_; have n_ := Aside0.mk (HB.out.trans (hHeld.mono HB.out.size)); clear HB; have HB := n_; clear n_ hHeld; clear z0 z1 z2 z3 z4 z5 z6 z7 z8 z9 z10 z11 z12; obtain ⟨z0, z1, z2, z3, z4, z5, z6, z7, z8, z9, z10, z11, z12⟩ := cells13 HX.out
  go_wp2_with (fail)
  go_ret
  exact ⟨by rw [← HV.out]; simp only [checkY, wordsY, *]; rfl, HB.out⟩
 ·have g0' : (((trimC d).length : Int) != (d.length : Int)) = false := by rw [bne_eq_false_iff_eq]; have := bne_eq_false_iff_eq.1 g0; omega
  generalize hpb : (nodeOkC a4 a5 a6 a0 a1 && placeOkC a4 a5 a6 a7 a8 a9 a10 a0 a1) = pb at *
  have HPB := Aside0.mk hpb
  clear hpb
  refine start_ (n := 25) (S := (fun w' => Below wo.heap.size wo w')) (ds := []) #[false, false, false, false, false, false, false, false, false, false, false, false, false, false, false, false, false, false, false, false, false, false, false, false, false] (by kernel_rfl) rfl rfl (below_drew (Below.refl _ _)) (fun hHeld => ?_)
  refine with_tabW chk.tab9 chk.bits9 (fun HT_ HW_ => ?_)
  refine pureS (i := 0) (N := (some 34)) #[true, false, false, false, false, false, false, false, false, false, false, false, false, false, false, false, false, false, false, false, false, false, false, false, false] HT_ ?_
  refine pureS (i := 4) (N := (some 38)) #[true, false, false, false, true, false, false, false, false, false, false, false, false, false, false, false, false, false, false, false, false, false, false, false, false] HT_ ?_
  refine take_ (i := 1) (N := (some 35)) (v := ?_) (a' := ?_) #[true, true, false, false, true, false, false, false, false, false, false, false, false, false, false, false, false, false, false, false, false, false, false, false, false] rfl rfl (take_ofW HT_.out HW_.out (by kernel_rfl)) (fun _ _ _ h => h) (Or.inl ⟨by rfl, ?_⟩) hHeld ?_ ?_
  rotate_left
  ·intro w' s0
   have f : w'.cell? ⟨gb, 3, none⟩ = some (.slice A3 d.length c3) := (blk_cell (blk_below HX.out s0) 3).trans rfl
   go_simp
   with_reducible rfl
  rotate_left
  ·simp only [Act.put, List.setIfInBounds_toArray, List.set_cons_zero, List.set_cons_succ, i64_w, i32_w]
   rfl
  refine take_ (i := 5) (N := (some 39)) (v := ?_) (a' := ?_) #[true, true, false, false, true, true, false, false, false, false, false, false, false, false, false, false, false, false, false, false, false, false, false, false, false] rfl rfl (take_ofW HT_.out HW_.out (by kernel_rfl)) (fun _ _ _ h => h) (Or.inl ⟨by rfl, ?_⟩) hHeld ?_ ?_
  rotate_left
  ·intro w' s0
   have f : w'.cell? ⟨gb, 3, none⟩ = some (.slice A3 d.length c3) := (blk_cell (blk_below HX.out s0) 3).trans rfl
   go_simp
   with_reducible rfl
  rotate_left
  ·simp only [Act.put, List.setIfInBounds_toArray, List.set_cons_zero, List.set_cons_succ, i64_w, i32_w]
   rfl
  refine pureS (i := 6) (N := (some 40)) #[true, true, false, false, true, true, true, false, false, false, false, false, false, false, false, false, false, false, false, false, false, false, false, false, false] HT_ ?_
  refine one_ (i := 2) (N := (some 36)) #[true, true, true, false, true, true, true, false, false, false, false, false, false, false, false, false, false, false, false, false, false, false, false, false, false] rfl rfl (one_of HT_.out (by kernel_rfl)) (by decide) (fun K hK => ?_)
  refine goes_ Try.func44 (by kernel_rfl) rfl #[.slice A3 d.length c3] (by rfl) rfl rfl (by (try simp only [List.map_toArray, List.map_cons, List.map_nil]); first | done | rfl) ?_
  have hH := hHeld
  refine (topiaryref02_Trim.calls 400 A3 c3 d (trimC d) _ (Kd.C_below HC3.out (HB.out.trans (hH.mono HB.out.size))) HL3.out HTR.out).mono ?_
  rintro e w1 ⟨v1, rfl, hr1, hb_⟩
  obtain ⟨A9, c9, rfl⟩ := Kd.R_slice hr1
  clear hr1
  refine ⟨_, rfl, ?_⟩
  have hS : Below wo.heap.size wo w1 := hH.trans (hb_.mono hH.size)
  clear hb_ hH hHeld
  refine hK.out _ _ (hS) (fun hHeld => ?_)
  clear hK K
  refine norm_ (a' := ?_) ?_ ?_
  rotate_left
  ·show Act.put _ (some 36) _ = _
   simp only [Act.put, List.setIfInBounds_toArray, List.set_cons_zero, List.set_cons_succ, i64_w, i32_w]
   rfl
  refine pureS (i := 3) (N := (some 37)) #[true, true, true, true, true, true, true, false, false, false, false, false, false, false, false, false, false, false, false, false, false, false, false, false, false] HT_ ?_
  refine pureS (i := 7) (N := (some 41)) #[true, true, true, true, true, true, true, true, false, false, false, false, false, false, false, false, false, false, false, false, false, false, false, false, false] HT_ ?_
  refine pureS (i := 8) (N := (some 42)) #[true, true, true, true, true, true, true, true, true, false, false, false, false, false, false, false, false, false, false, false, false, false, false, false, false] HT_ ?_
  refine pureS (i := 9) (N := (some 43)) #[true, true, true, true, true, true, true, true, true, true, false, false, false, false, false, false, false, false, false, false, false, false, false, false, false] HT_ ?_
  refine pureS (i := 11) (N := (some 45)) #[true, true, true, true, true, true, true, true, true, true, false, true, false, false, false, false, false, false, false, false, false, false, false, false, false] HT_ ?_
  refine pureS (i := 12) (N := (some 46)) #[true, true, true, true, true, true, true, true, true, true, false, true, true, false, false, false, false, false, false, false, false, false, false, false, false] HT_ ?_
  refine pureS (i := 15) (N := (some 49)) #[true, true, true, true, true, true, true, true, true, true, false, true, true, false, false, true, false, false, false, false, false, false, false, false, false] HT_ ?_
  refine take_ (i := 10) (N := (some 44)) (v := ?_) (a' := ?_) #[true, true, true, true, true, true, true, true, true, true, true, true, true, false, false, true, false, false, false, false, false, false, false, false, false] rfl rfl (take_ofW HT_.out HW_.out (by kernel_rfl)) (fun _ _ _ h => h) (Or.inl ⟨by rfl, ?_⟩) hHeld ?_ ?_
  rotate_left
  ·intro w' s0
   have f : w'.cell? ⟨gb, 3, none⟩ = some (.slice A3 d.length c3) := (blk_cell (blk_below HX.out s0) 3).trans rfl
   go_simp
   with_reducible rfl
  rotate_left
  ·simp only [Act.put, List.setIfInBounds_toArray, List.set_cons_zero, List.set_cons_succ, i64_w, i32_w]
   rfl
  refine take_ (i := 13) (N := (some 47)) (v := ?_) (a' := ?_) #[true, true, true, true, true, true, true, true, true, true, true, true, true, true, false, true, false, false, false, false, false, false, false, false, false] rfl rfl (take_ofW HT_.out HW_.out (by kernel_rfl)) (fun _ _ _ h => h) (Or.inl ⟨by rfl, ?_⟩) hHeld ?_ ?_
  rotate_left
  ·intro w' s0
   have f : w'.cell? ⟨gb, 1, none⟩ = some (.int .i64 a1) := (blk_cell (blk_below HX.out s0) 1).trans rfl
   go_simp
   with_reducible rfl
  rotate_left
  ·simp only [Act.put, List.setIfInBounds_toArray, List.set_cons_zero, List.set_cons_succ, i64_w, i32_w]
   rfl
  refine take_ (i := 16) (N := (some 50)) (v := ?_) (a' := ?_) #[true, true, true, true, true, true, true, true, true, true, true, true, true, true, false, true, true, false, false, false, false, false, false, false, false] rfl rfl (take_ofW HT_.out HW_.out (by kernel_rfl)) (fun _ _ _ h => h) (Or.inl ⟨by rfl, ?_⟩) hHeld ?_ ?_
  rotate_left
  ·intro w' s0
   have f : w'.cell? ⟨gb, 2, none⟩ = some (.int .i64 a2) := (blk_cell (blk_below HX.out s0) 2).trans rfl
   go_simp
   with_reducible rfl
  rotate_left
  ·simp only [Act.put, List.setIfInBounds_toArray, List.set_cons_zero, List.set_cons_succ, i64_w, i32_w]
   rfl
  refine pureS (i := 17) (N := (some 51)) #[true, true, true, true, true, true, true, true, true, true, true, true, true, true, false, true, true, true, false, false, false, false, false, false, false] HT_ ?_
  refine one_ (i := 14) (N := (some 48)) #[true, true, true, true, true, true, true, true, true, true, true, true, true, true, true, true, true, true, false, false, false, false, false, false, false] rfl rfl (one_of HT_.out (by kernel_rfl)) (by decide) (fun K hK => ?_)
  refine goes_ Try.func49 (by kernel_rfl) rfl #[.slice A3 d.length c3, .int .i64 a1] (by rfl) rfl rfl (by (try simp only [List.map_toArray, List.map_cons, List.map_nil]); first | done | rfl) ?_
  have hH := hHeld
  refine (topiaryref02_At.calls A3 c3 d a1 _ _ (Kd.C_below HC3.out (HB.out.trans (hH.mono HB.out.size))) HL3.out (ref_At_is d a1)).mono ?_
  rintro e w1 ⟨rfl, ⟨nd, hnd⟩⟩
  have hb_ := drew_below hnd; clear hnd
  refine ⟨_, rfl, ?_⟩
  have hS : Below wo.heap.size wo w1 := hH.trans (hb_.mono hH.size)
  clear hb_ hH hHeld
  refine hK.out _ _ (hS) (fun hHeld => ?_)
  clear hK K
  refine norm_ (a' := ?_) ?_ ?_
  rotate_left
  ·show Act.put _ (some 48) _ = _
   simp only [Act.put, List.setIfInBounds_toArray, List.set_cons_zero, List.set_cons_succ, i64_w, i32_w]
   rfl
  refine pureS (i := 18) (N := (some 52)) #[true, true, true, true, true, true, true, true, true, true, true, true, true, true, true, true, true, true, true, false, false, false, false, false, false] HT_ ?_
  refine pureS (i := 19) (N := (some 53)) #[true, true, true, true, true, true, true, true, true, true, true, true, true, true, true, true, true, true, true, true, false, false, false, false, false] HT_ ?_
  refine pureS (i := 20) (N := (some 54)) #[true, true, true, true, true, true, true, true, true, true, true, true, true, true, true, true, true, true, true, true, true, false, false, false, false] HT_ ?_
  refine take_ (i := 21) (N := (some 55)) (v := ?_) (a' := ?_) #[true, true, true, true, true, true, true, true, true, true, true, true, true, true, true, true, true, true, true, true, true, true, false, false, false] rfl rfl (take_ofW HT_.out HW_.out (by kernel_rfl)) (fun _ _ _ h => h) (Or.inl ⟨by rfl, ?_⟩) hHeld ?_ ?_
  rotate_left
  ·intro w' s0
   refine Eq.trans (load32_run (x := (⟨⟨a0, a1⟩, a2, d, a4, ⟨a5, a6⟩, ⟨a7, a8⟩, ⟨a9, a10⟩, s, t⟩ : S32)) (v := .slice A3 d.length c3) _ (p := .tmp 1) ?ho_ ?hp_ (blk_cells (blk_below HX.out s0))) ?hr_
   case ho_ => rfl
   case hp_ => rfl
   case hr_ => rfl
  rotate_left
  ·simp only [Act.put, List.setIfInBounds_toArray, List.set_cons_zero, List.set_cons_succ, i64_w, i32_w]
   rfl
  refine one_ (i := 22) (N := (some 56)) #[true, true, true, true, true, true, true, true, true, true, true, true, true, true, true, true, true, true, true, true, true, true, true, false, false] rfl rfl (one_of HT_.out (by kernel_rfl)) (by decide) (fun K hK => ?_)
  refine goes_ Try.func71 (by kernel_rfl) rfl #[.agg #[.int .i64 a0, .int .i64 a1, .int .i64 a2, .slice A3 d.length c3, .int .i64 a4, .int .i64 a5, .int .i64 a6, .int .i64 a7, .int .i64 a8, .int .i64 a9, .int .i64 a10, .string s, .string t]] (by rfl) rfl rfl (by (try simp only [List.map_toArray, List.map_cons, List.map_nil]); first | done | rfl) ?_
  have hH := hHeld
  refine (placed_calls (w := _) a0 a1 a2 A3 d c3 a4 a5 a6 a7 a8 a9 a10 s t HK1.out).mono ?_
  rintro e w1 ⟨he_, hb_⟩
  rw [HPB.out] at he_
  subst he_
  refine ⟨_, rfl, ?_⟩
  have hS : Below wo.heap.size wo w1 := hH.trans (hb_.mono hH.size)
  clear hb_ hH hHeld
  refine hK.out _ _ (hS) (fun hHeld => ?_)
  clear hK K
  refine norm_ (a' := ?_) ?_ ?_
  rotate_left
  ·show Act.put _ (some 56) _ = _
   simp only [Act.put, List.setIfInBounds_toArray, List.set_cons_zero, List.set_cons_succ, i64_w, i32_w]
   rfl
  refine pureS (i := 23) (N := (some 57)) #[true, true, true, true, true, true, true, true, true, true, true, true, true, true, true, true, true, true, true, true, true, true, true, true, false] HT_ ?_
  refine pureS (i := 24) (N := (some 58)) #[true, true, true, true, true, true, true, true, true, true, true, true, true, true, true, true, true, true, true, true, true, true, true, true, true] HT_ ?_
  refine done_ (done_of HT_.out (by kernel_rfl)) ?_
  have n_ := Aside0.mk (blk_below HX.out hHeld); clear HX; have HX := n_; clear n_; have n_ := Aside0.mk (HB.out.trans (hHeld.mono HB.out.size)); clear HB; have HB := n_; clear n_ hHeld; clear z0 z1 z2 z3 z4 z5 z6 z7 z8 z9 z10 z11 z12; obtain ⟨z0, z1, z2, z3, z4, z5, z6, z7, z8, z9, z10, z11, z12⟩ := cells13 HX.out
  cases pb with
  | false =>
   go_wp2_with (fail)
   go_ret
   exact ⟨by rw [← HV.out]; simp only [checkY, wordsY, *]; rfl, HB.out⟩
  | true =>
   go_upto_region 11 with (fail)
   rcases HKK.out with ⟨k1, k3, k4, k5, j3, j5⟩ | ⟨k1, k3, k4, k5, j3, j5⟩ | ⟨k1, k3, k4, k5, j3, j5⟩ | ⟨k1, k3, k4, k5, j3, j5⟩ | ⟨k1, k3, k4, k5, j3, j5⟩
   rcases ckC (nameC s) (decide ((t.size : Int) > 256)) (t.toList != ([] : List UInt8)) with l0 | ⟨l0, l1⟩ | ⟨l0, l1, l2⟩ | ⟨l0, l1, l2⟩
   rotate_left 4
   rcases ckC (nameC s) (decide ((t.size : Int) > 256)) (t.toList != ([] : List UInt8)) with l0 | ⟨l0, l1⟩ | ⟨l0, l1, l2⟩ | ⟨l0, l1, l2⟩
   rotate_left 4
   rcases ckD (nameC s) (decide ((t.size : Int) > 256)) with l0 | ⟨l0, l1⟩ | ⟨l0, l1⟩
   rotate_left 3
   rcases ckB (s.toList != ([] : List UInt8)) (decide ((t.size : Int) > 256)) with l0 | ⟨l0, l1⟩ | ⟨l0, l1⟩
   rotate_left 3
   rcases ckE (s.toList != ([] : List UInt8)) (decide ((t.size : Int) > 256)) (t.toList != ([] : List UInt8)) with l0 | ⟨l0, l1⟩ | ⟨l0, l1, l2⟩ | ⟨l0, l1, l2⟩
   all_goals
    try have q0 := bne_f (l := s.toList) l0
    try have q2 := bne_f (l := t.toList) l2
    go_wp2_with (first | (go_at_call 72; refine (topiaryref05_Name.calls (s.size + 3) s _ _ HNM.out).mono ?_; clear z0 z1 z2 z3 z4 z5 z6 z7 z8 z9 z10 z11 z12; rintro e w2 ⟨rfl, ⟨nd, hnd⟩⟩; have hb_ := drew_below hnd; clear hnd; have n_ := Aside0.mk (blk_below HX.out hb_); clear HX; have HX := n_; clear n_; have n_ := Aside0.mk (HB.out.trans (hb_.mono HB.out.size)); clear HB; have HB := n_; clear n_ hb_; obtain ⟨z0, z1, z2, z3, z4, z5, z6, z7, z8, z9, z10, z11, z12⟩ := cells13 HX.out))
    go_ret
    exact ⟨by rw [← HV.out]; simp only [checkY, wordsY, *]; rfl, HB.out⟩
end Go.Proofs.Ytnopjjilpgekfaa.PCa
namespace Go.Proofs.Ytnopjjilpgekfaa.PCa
open Go.RowKit Go.Proofs.YtnopjjilpgekfaaW.PrintWords Go.Proofs.YtnopjjilpgekfaaW.PrintLast Go.Proofs.YtnopjjilpgekfaaW.PrintMore
attribute [local go_sem] max2_int min2_int max_two min_two max_three min_three max_four min_four
set_option linter.unusedVariables false
set_option linter.unusedSimpArgs false
def put.T6 : Bool × List (List Nat × List Nat) := (true, [([], []), ([0], [0]), ([1], [1]), ([2], [2]), ([2], [2]), ([2], [2]), ([4, 5, 2], [2, 4, 5]), ([6, 2], [2, 6]), ([3, 7, 2, 2], [2, 3, 7]), ([2, 8], [2, 8])])
def put.B6 : List Nat := [0, 1, 3, 7, 7, 7, 55, 119, 255, 511]
theorem put.tab6 : rtab .any (opsOf Try.f52 6) = put.T6 := by kernel_rfl
theorem put.bits6 : waitsOk put.T6.2 put.B6 = true := by kernel_rfl
theorem ck2 : ∀ (a b c : Bool), a = true ∨ (a = false ∧ b = false) ∨ (a = false ∧ b = true ∧ c = true) ∨ (a = false ∧ b = true ∧ c = false) := by
 intro a b c
 cases a <;> cases b <;> cases c <;> decide
theorem befX_eq (x y : S32) : befX x y = ((lessC x.f0.f0 x.f0.f1 y.f0.f0 y.f0.f1) || ((x.f0.f0 == y.f0.f0 && (x.f0.f1 == y.f0.f1)) && (decide (x.f1 < y.f1)))) := by
 unfold befX
 rfl
attribute [local go_sem high] eqA30
set_option maxHeartbeats 8000000 in
set_option maxRecDepth 100000 in
theorem before_calls {w : World} (x : S32) (A3 : Option Addr) (c3 : Nat) (y : S32) (A4 : Option Addr) (c4 : Nat) :
  Calls Try.prog 73 #[(.agg #[.int .i64 x.f0.f0, .int .i64 x.f0.f1, .int .i64 x.f1, (.slice A3 x.f2.length c3), .int .i64 x.f3, .int .i64 x.f4.f0, .int .i64 x.f4.f1, .int .i64 x.f5.f0, .int .i64 x.f5.f1, .int .i64 x.f6.f0, .int .i64 x.f6.f1, .string x.f7, .string x.f8]), (.agg #[.int .i64 y.f0.f0, .int .i64 y.f0.f1, .int .i64 y.f1, (.slice A4 y.f2.length c4), .int .i64 y.f3, .int .i64 y.f4.f0, .int .i64 y.f4.f1, .int .i64 y.f5.f0, .int .i64 y.f5.f1, .int .i64 y.f6.f0, .int .i64 y.f6.f1, .string y.f7, .string y.f8])] w fun e w' => e = .returned (.bool (befX x y)) ∧ Below w.heap.size w w' := by
 rw [befX_eq]
 rcases ck2 (lessC x.f0.f0 x.f0.f1 y.f0.f0 y.f0.f1) (x.f0.f0 == y.f0.f0 && (x.f0.f1 == y.f0.f1)) (decide (x.f1 < y.f1)) with h0 | ⟨h0, h1⟩ | ⟨h0, h1, h2⟩ | ⟨h0, h1, h2⟩
 all_goals
  simp only [*]
  go_enter Try.func73, Try.ntmps73
  go_wp2_with (first | ((with_reducible refine gate_dst (N := 2) rfl ?_); refine box_event ?hg (N := 2) ?hd (cs := #[.int .i64 x.f0.f0, .int .i64 x.f0.f1, .int .i64 x.f1, (.slice A3 x.f2.length c3), .int .i64 x.f3, .int .i64 x.f4.f0, .int .i64 x.f4.f1, .int .i64 x.f5.f0, .int .i64 x.f5.f1, .int .i64 x.f6.f0, .int .i64 x.f6.f1, .string x.f7, .string x.f8]) (t := 32) ?hr ?_; (case hd => rfl); (case hg => rfl); (case hr => first | (go_simp; done) | (go_simp; rfl)); intro ga hr_ w1 hbox hb; have HXA := Aside0.mk hbox; have HB := Aside0.mk hb; clear hbox hb hr_) | ((with_reducible refine gate_dst (N := 3) rfl ?_); refine box_event ?hg (N := 3) ?hd (cs := #[.int .i64 y.f0.f0, .int .i64 y.f0.f1, .int .i64 y.f1, (.slice A4 y.f2.length c4), .int .i64 y.f3, .int .i64 y.f4.f0, .int .i64 y.f4.f1, .int .i64 y.f5.f0, .int .i64 y.f5.f1, .int .i64 y.f6.f0, .int .i64 y.f6.f1, .string y.f7, .string y.f8]) (t := 32) ?hr ?_; (case hd => rfl); (case hg => rfl); (case hr => first | (go_simp; done) | (go_simp; rfl)); intro gb hr_ w2 hbox hb; have n_ := Aside0.mk (blk_below HXA.out hb); clear HXA; have HXA := n_; clear n_; have n_ := Aside0.mk (HB.out.trans (hb.mono HB.out.size)); clear HB; have HB := n_; clear n_; have HXB := Aside0.mk hbox; obtain ⟨u0, u1, u2, u3, u4, u5, u6, u7, u8, u9, u10, u11, u12⟩ := cells13 HXA.out; obtain ⟨z0, z1, z2, z3, z4, z5, z6, z7, z8, z9, z10, z11, z12⟩ := cells13 HXB.out; clear hbox hb hr_) | (go_at_call 60; refine (topiaryref01_Less.calls _ _ _ _ _ _ (ref_Less_is _ _ _ _)).mono ?_; clear z0 z1 z2 z3 z4 z5 z6 z7 z8 z9 z10 z11 z12 u0 u1 u2 u3 u4 u5 u6 u7 u8 u9 u10 u11 u12; rintro e w2 ⟨rfl, hb_⟩; obtain ⟨u0, u1, u2, u3, u4, u5, u6, u7, u8, u9, u10, u11, u12⟩ := cells13 (blk_below HXA.out hb_); obtain ⟨z0, z1, z2, z3, z4, z5, z6, z7, z8, z9, z10, z11, z12⟩ := cells13 (blk_below HXB.out hb_); have n_ := Aside0.mk (HB.out.trans (hb_.mono HB.out.size)); clear HB; have HB := n_; clear n_ hb_))
  go_ret
  exact ⟨rfl, HB.out⟩
section
variable {o : Oper} {ops : Array Oper} {rest : List Oper} {a : Act} {Q : Exit → Act → World → Prop} {w0 W : World}
/-- One change more behind a list. -/
theorem app32 (base : Nat) {b : Nat} (hgd : o.guard = none) (s x : Operand) (ho : o.op = .call { callee := .builtin .append, args := #[s, x], argTypes := #[22, 22] }) (v : Value) (xs : List S32) (p : S32) (A3 : Option Addr) (c3 : Nat) (ok : Nat → Prop) (hs : a.eval s = v) (hx : a.eval x = .slice (some ⟨W.heap.size, 0, none⟩) 1 1)
  (hp : Kd.V (Kd.int .i64) 3 W b (fun k => ok k ∧ some k ≠ v.ownBlock) (.slice A3 p.f2.length c3) p.f2) (hfresh : ∀ k, W.heap.size ≤ k → ok k) (HO : Kd.N k32 32 W base ok v xs) (HB : Below base w0 W) (hbase : base ≤ W.heap.size) (hl : xs.length < 1000000)
  (h : ∀ v1 w1, Kd.N k32 32 w1 base ok v1 (xs ++ [p]) → Below base w0 w1 → W.grownBy w1 v.ownBlock → (v1.ownBlock = v.ownBlock ∨ ∃ b, v1.ownBlock = some b ∧ W.heap.size ≤ b) → wpList Try.prog ops Q rest (a.put o.dst v1) w1) :
  wpList Try.prog ops Q (o :: rest) a (W.alloc (.cells (chA p (.slice A3 p.f2.length c3)) 32)) :=
 Kd.N_append k32 (w0 := w0) base hgd s x 22 32 (.agg #[(.int .i64 0), (.int .i64 0), (.int .i64 0), (.slice none 0 0), (.int .i64 0), (.int .i64 0), (.int .i64 0), (.int .i64 0), (.int .i64 0), (.int .i64 0), (.int .i64 0), (.string ⟨#[]⟩), (.string ⟨#[]⟩)]) 136 ho Try.underlying22 info32 rfl (by decide) (by omega) v xs p (chL p (.slice A3 p.f2.length c3)) ok (fun k => ok k ∧ some k ≠ v.ownBlock) hs hx (k32_mkF _ _ p (Kd.V_reads' hp).2.1 (Kd.V_F hp)) (fun _ hk => hk) hfresh HO HB hbase (by omega) h
end
/-- An element of a list that is read. -/
theorem elemV {w : World} {b : Nat} {P0 : Nat → Prop} {A0 : Option Addr} {c0 : Nat} {l : List S32} (hl : Kd.V k32 32 w b P0 (.slice A0 l.length c0) l) {i : Nat} (hi : i < l.length) :
  ∃ ad A3 c3, A0 = some ad ∧ (∀ W, Below w.heap.size w W → ∀ j u, (chL (rd_T32 l (i : Int)) (.slice A3 (rd_T32 l (i : Int)).f2.length c3))[j]? = some u → W.cell? ((ad.add (i * 13)).add j) = some u) ∧ (rd_T32 l (i : Int)).f2.length ≤ c3 ∧ Kd.V (Kd.int .i64) 3 w 0 (fun k => P0 k ∧ k < w.heap.size) (.slice A3 (rd_T32 l (i : Int)).f2.length c3) (rd_T32 l (i : Int)).f2 := by
 obtain ⟨ad, _, rfl, _⟩ := Kd.C_get (Kd.V_reads' hl).2.2 z32 (i : Int) (by omega) (by omega)
 obtain ⟨cs, hcl, hK, hcc⟩ := Kd.V_get (Kd.V_bound hl) z32 (i : Int) (by omega) (by omega)
 obtain ⟨A3, c3, rfl, l3, g3⟩ := k32_openF hK
 rw [Int.toNat_natCast] at hcc
 refine ⟨ad, A3, c3, rfl, fun W hb j u hj => ?_, l3, Kd.V_mk l3 g3⟩
 rw [add_add]
 have h := hcc j u hj
 exact (hb.cell (World.block_lt_of_cell? w _ h)).trans h
set_option maxHeartbeats 8000000 in
set_option maxRecDepth 100000 in
theorem put_calls {w : World} {b0 b1 : Nat} {P0 P1 : Nat → Prop} (A0 : Option Addr) (c0 : Nat) (l : List S32) (hl : Kd.V k32 32 w b0 P0 (.slice A0 l.length c0) l) (x : S32) (A3 : Option Addr) (c3 : Nat) (hx : Kd.V (Kd.int .i64) 3 w b1 P1 (.slice A3 x.f2.length c3) x.f2) (hn : l.length < 1000) :
  Calls Try.prog 52 #[.slice A0 l.length c0, (.agg #[.int .i64 x.f0.f0, .int .i64 x.f0.f1, .int .i64 x.f1, (.slice A3 x.f2.length c3), .int .i64 x.f3, .int .i64 x.f4.f0, .int .i64 x.f4.f1, .int .i64 x.f5.f0, .int .i64 x.f5.f1, .int .i64 x.f6.f0, .int .i64 x.f6.f1, .string x.f7, .string x.f8])] w fun e w' => ∃ v, e = .returned v ∧ Kd.N k32 32 w' w.heap.size (fun k => (P0 k ∨ P1 k) ∨ w.heap.size ≤ k) v (putC x l) ∧ Below w.heap.size w w' := by
 have HL := Aside0.mk hl
 have HXV := Aside0.mk (Kd.V_mono (Kd.V_bound hx) (ok' := fun k => (P0 k ∨ P1 k) ∧ k < w.heap.size) (fun k hk => ⟨.inr hk.1, hk.2⟩))
 have HNL := Aside0.mk hn
 clear hl hx hn
 go_enter Try.func52, Try.ntmps52
 go_wp2_with (first | ((with_reducible refine gate_dst (N := 3) rfl ?_); refine box_event ?hg (N := 3) ?hd (cs := #[.int .i64 x.f0.f0, .int .i64 x.f0.f1, .int .i64 x.f1, (.slice A3 x.f2.length c3), .int .i64 x.f3, .int .i64 x.f4.f0, .int .i64 x.f4.f1, .int .i64 x.f5.f0, .int .i64 x.f5.f1, .int .i64 x.f6.f0, .int .i64 x.f6.f1, .string x.f7, .string x.f8]) (t := 32) ?hr ?_; (case hd => rfl); (case hg => rfl); (case hr => first | (go_simp; done) | (go_simp; rfl)); intro gb hr_ w1 hbox hb; have HX := Aside0.mk hbox; have HB := Aside0.mk hb; have HG := Aside0.mk (Nat.le_of_eq hr_.symm); clear hbox hb hr_) | ((with_reducible refine gate_dst (N := 8) rfl ?_); refine Kd.N_lit k32 w.heap.size 32 ?hg (N' := 8) ?hd (xs := ([] : List S32)) (inner := []) (ok := (fun k => ((P0 k ∨ P1 k) ∨ w.heap.size ≤ k) ∧ k ≠ gb)) (okp := (fun k => ((P0 k ∨ P1 k) ∨ w.heap.size ≤ k) ∧ k ≠ gb)) ?hr ?hp (fun _ hk => hk) ⟨.inr HB.out.size, Nat.ne_of_gt (blk_lt HX.out)⟩ HB.out HB.out.size (by simp) ?_; (case hd => rfl); (case hg => rfl); (case hr => first | (go_simp; done) | (go_simp; rfl)); (case hp => exact (Reps.none _ _)); intro v5 w2 hN hb hg_ hnew_; have HN := Aside0.mk hN; have n_ := Aside0.mk ((hg_.block gb (blk_lt HX.out) (fun h => by cases h)).trans HX.out); clear HX HB; have HX := n_; clear n_; have HB := Aside0.mk hb; clear hN hb hg_ hnew_))
 go_loopw [5, 6, 7] (fun v5 v6 v7 wq => ∃ (i : Nat) (o : List S32) (done : Bool) (vo : Value), vo = v5 ∧ v6 = .bool done ∧ v7 = .int .i64 (i : Int) ∧ Aside0 (i ≤ l.length) ∧ Aside0 (Kd.N k32 32 wq w.heap.size (fun k => ((P0 k ∨ P1 k) ∨ w.heap.size ≤ k) ∧ k ≠ gb) vo o) ∧ Aside0 (wq.heap[gb]? = some (.cells #[.int .i64 x.f0.f0, .int .i64 x.f0.f1, .int .i64 x.f1, (.slice A3 x.f2.length c3), .int .i64 x.f3, .int .i64 x.f4.f0, .int .i64 x.f4.f1, .int .i64 x.f5.f0, .int .i64 x.f5.f1, .int .i64 x.f6.f0, .int .i64 x.f6.f1, .string x.f7, .string x.f8] 32 (0, 0))) ∧ Aside0 (Below w.heap.size w wq) ∧ Aside0 (o ++ (if done = true then l.drop i else putC x (l.drop i)) = putC x l) ∧ Aside0 (o.length ≤ i + done.toNat)) (fun _ _ v7 _ => l.length - (intOf v7).toNat)
 case atStart => exact ⟨0, [], false, _, rfl, rfl, rfl, ⟨Nat.zero_le _⟩, ⟨Kd.N_below HN.out (by repeat (first | exact Below.refl _ _ | apply below_drew))⟩, ⟨blk_below HX.out (by repeat (first | exact Below.refl _ _ | apply below_drew))⟩, ⟨HB.out.trans (Below.mono (by repeat (first | exact Below.refl _ _ | apply below_drew)) HB.out.size)⟩, ⟨by rw [List.nil_append, if_neg (by decide), List.drop_zero]⟩, ⟨Nat.zero_le _⟩⟩
 case round =>
  clear HN HX HB
  obtain ⟨i, o, done, vo, rfl, rfl, rfl, HI, HN, HX, HB, HE, HO⟩ := hrel
  obtain ⟨wo, rfl⟩ : ∃ wo, wo = wr := ⟨wr, rfl⟩
  have HON : Aside0 (o.length < 5000) := ⟨by have h1_ := HO.out; have h2_ := HI.out; have h3_ := HNL.out; have h4_ := Bool.toNat_le done; omega⟩
  by_cases hi : i < l.length
  case neg =>
   have e1 : decide (i < l.length) = false := decide_eq_false hi
   have he := HE.out
   rw [List.drop_of_length_le (by omega)] at he
   clear hi HE
   cases done with
   | true =>
    rw [if_pos rfl, List.append_nil] at he
    go_wp2_with (fail)
    go_ret
    exact ⟨_, rfl, by rw [← he]; exact Kd.N_mono HN.out (fun k hk => hk.1), HB.out⟩
   | false =>
    rw [if_neg (by decide)] at he
    have HE := Aside0.mk he
    clear he
    go_wp2_with (first | ((with_reducible refine gate_dst (N := 39) rfl ?_); refine load32_ev rfl (N := 39) rfl x (.slice A3 x.f2.length c3) (p := .tmp 3) rfl (ad := ⟨gb, 0, none⟩) rfl (blk_cells HX.out) ?_) | ((with_reducible refine gate_builtin (b := .append) (xs := #[.tmp 38, .tmp 40]) rfl ?_); at_builtin; refine app32 (w0 := w) w.heap.size rfl (.tmp 38) (.tmp 40) rfl vo o x A3 c3 (fun k => ((P0 k ∨ P1 k) ∨ w.heap.size ≤ k) ∧ k ≠ gb) rfl rfl (Kd.V_mono (Kd.V_below HXV.out HB.out) (fun k hk => ⟨⟨.inl hk.1, fun e => by have h1_ := HG.out; have h2_ := hk.2; omega⟩, fun e => by have h1_ := Kd.N_base HN.out k e.symm; have h2_ := hk.2; omega⟩)) (fun k hk => ⟨.inr (Nat.le_trans HB.out.size hk), fun e => by have h_ := blk_lt HX.out; omega⟩) HN.out HB.out HB.out.size (by have h_ := HON.out; (try simp only [List.length_append, List.length_singleton]); omega) ?_; intro v5 w2 hN hb hg_ hat_; have n_ := Aside0.mk ((hg_.block gb (blk_lt HX.out) (Kd.N_away HN.out (fun k hk => hk.2))).trans HX.out); clear HX HB HN; have HX := n_; clear n_; have HB := Aside0.mk hb; have HN := Aside0.mk hN; clear hN hb hg_ hat_))
    go_ret
    exact ⟨_, rfl, by rw [← HE.out]; exact Kd.N_mono HN.out (fun k hk => hk.1), HB.out⟩
  have HI' := Aside0.mk hi
  obtain ⟨ad, A4, c4, rfl, hcc, hl4, hV4⟩ := elemV HL.out hi
  have hd := rd32_drop hi
  generalize rd_T32 l (i : Int) = y at *
  have HYC := Aside0.mk hcc
  have HYV := Aside0.mk (Kd.V_mono hV4 (ok' := fun k => (P0 k ∨ P1 k) ∧ k < w.heap.size) (fun k hk => ⟨.inl hk.1, hk.2⟩))
  have HIW := Aside0.mk (w1s (n := i) (by have h1_ := HNL.out; omega))
  have b1 : (0 ≤ (i : Int)) = True := eq_true (by omega)
  have b2 : ((i : Int) < (l.length : Int)) = True := eq_true (by omega)
  have b3 : (i < l.length) = True := eq_true hi
  have b4 : decide (i < l.length) = true := decide_eq_true hi
  have he := HE.out
  rw [hd] at he
  clear hcc hl4 hV4 hi hd HE
  cases done with
  | true =>
   rw [if_pos rfl] at he
   have HE := Aside0.mk he
   clear he
   go_upto_region 6 with (fail)
   refine start_ (n := 10) (S := (fun w' => Below wo.heap.size wo w')) (ds := []) #[false, false, false, false, false, false, false, false, false, false] (by kernel_rfl) rfl rfl (below_drew (Below.refl _ _)) (fun hHeld => ?_)
   refine with_tabW put.tab6 put.bits6 (fun HT_ HW_ => ?_)
   refine pureS (i := 0) (N := (some 15)) #[true, false, false, false, false, false, false, false, false, false] HT_ ?_
   refine pureS (i := 1) (N := (some 16)) #[true, true, false, false, false, false, false, false, false, false] HT_ ?_
   refine pureS (i := 2) (N := (some 17)) #[true, true, true, false, false, false, false, false, false, false] HT_ ?_
   refine pure_ (i := 3) (N := (some 18)) (v := undef) (a' := ?_) #[true, true, true, true, false, false, false, false, false, false] rfl rfl (any_of HT_.out (by kernel_rfl)) (fun _ _ _ h => h) (Or.inr ⟨by rfl, rfl⟩) ?_ ?_
   rotate_left
   ·simp only [Act.put, List.setIfInBounds_toArray, List.set_cons_zero, List.set_cons_succ, i64_w, i32_w]
    rfl
   refine pure_ (i := 4) (N := (some 19)) (v := undef) (a' := ?_) #[true, true, true, true, true, false, false, false, false, false] rfl rfl (any_of HT_.out (by kernel_rfl)) (fun _ _ _ h => h) (Or.inr ⟨by rfl, rfl⟩) ?_ ?_
   rotate_left
   ·simp only [Act.put, List.setIfInBounds_toArray, List.set_cons_zero, List.set_cons_succ, i64_w, i32_w]
    rfl
   refine pure_ (i := 5) (N := (some 20)) (v := undef) (a' := ?_) #[true, true, true, true, true, true, false, false, false, false] rfl rfl (any_of HT_.out (by kernel_rfl)) (fun _ _ _ h => h) (Or.inr ⟨by rfl, rfl⟩) ?_ ?_
   rotate_left
   ·simp only [Act.put, List.setIfInBounds_toArray, List.set_cons_zero, List.set_cons_succ, i64_w, i32_w]
    rfl
   refine pure_ (i := 6) (N := (some 21)) (v := undef) (a' := ?_) #[true, true, true, true, true, true, true, false, false, false] rfl rfl (any_of HT_.out (by kernel_rfl)) (fun _ _ _ h => h) (Or.inr ⟨by rfl, rfl⟩) ?_ ?_
   rotate_left
   ·simp only [Act.put, List.setIfInBounds_toArray, List.set_cons_zero, List.set_cons_succ, i64_w, i32_w]
    rfl
   refine pure_ (i := 7) (N := (some 22)) (v := undef) (a' := ?_) #[true, true, true, true, true, true, true, true, false, false] rfl rfl (any_of HT_.out (by kernel_rfl)) (fun _ _ _ h => h) (Or.inr ⟨by rfl, rfl⟩) ?_ ?_
   rotate_left
   ·simp only [Act.put, List.setIfInBounds_toArray, List.set_cons_zero, List.set_cons_succ, i64_w, i32_w]
    rfl
   refine pure_ (i := 8) (N := (some 23)) (v := undef) (a' := ?_) #[true, true, true, true, true, true, true, true, true, false] rfl rfl (any_of HT_.out (by kernel_rfl)) (fun _ _ _ h => h) (Or.inr ⟨by rfl, rfl⟩) ?_ ?_
   rotate_left
   ·simp only [Act.put, List.setIfInBounds_toArray, List.set_cons_zero, List.set_cons_succ, i64_w, i32_w]
    rfl
   refine pureS (i := 9) (N := (some 24)) #[true, true, true, true, true, true, true, true, true, true] HT_ ?_
   refine done_ (done_of HT_.out (by kernel_rfl)) ?_
   have n_ := Aside0.mk (blk_below HX.out hHeld); clear HX; have HX := n_; clear n_; have n_ := Aside0.mk (Kd.N_below HN.out hHeld); clear HN; have HN := n_; clear n_; have n_ := Aside0.mk (HB.out.trans (hHeld.mono HB.out.size)); clear HB; have HB := n_; clear n_ hHeld
   go_wp2_with (first | ((with_reducible refine gate_dst (N := 33) rfl ?_); refine load32_ev rfl (N := 33) rfl y (.slice A4 y.f2.length c4) (p := .tmp 32) rfl rfl (fun j u hj => HYC.out _ HB.out j u hj) ?_) | ((with_reducible refine gate_builtin (b := .append) (xs := #[.tmp 29, .tmp 34]) rfl ?_); at_builtin; refine app32 (w0 := w) w.heap.size rfl (.tmp 29) (.tmp 34) rfl vo o y A4 c4 (fun k => ((P0 k ∨ P1 k) ∨ w.heap.size ≤ k) ∧ k ≠ gb) rfl rfl (Kd.V_mono (Kd.V_below HYV.out HB.out) (fun k hk => ⟨⟨.inl hk.1, fun e => by have h1_ := HG.out; have h2_ := hk.2; omega⟩, fun e => by have h1_ := Kd.N_base HN.out k e.symm; have h2_ := hk.2; omega⟩)) (fun k hk => ⟨.inr (Nat.le_trans HB.out.size hk), fun e => by have h_ := blk_lt HX.out; omega⟩) HN.out HB.out HB.out.size (by have h_ := HON.out; (try simp only [List.length_append, List.length_singleton]); omega) ?_; intro v5 w2 hN hb hg_ hat_; have n_ := Aside0.mk ((hg_.block gb (blk_lt HX.out) (Kd.N_away HN.out (fun k hk => hk.2))).trans HX.out); clear HX HB HN; have HX := n_; clear n_; have HB := Aside0.mk hb; have HN := Aside0.mk hN; clear hN hb hg_ hat_))
   rw [HIW.out]
   exact ⟨⟨i + 1, o ++ [y], true, _, rfl, rfl, rfl, ⟨HI'.out⟩, HN, HX, HB, ⟨by rw [if_pos rfl, List.append_assoc]; exact HE.out⟩, ⟨by rw [List.length_append]; exact Nat.succ_le_succ HO.out⟩⟩, dec_lt HI'.out⟩
  | false =>
   rw [if_neg (by decide), putC] at he
   obtain ⟨bq, hbq⟩ : ∃ bq, befX x y = bq := ⟨_, rfl⟩
   rw [hbq] at he
   have HBF := Aside0.mk hbq
   have HE := Aside0.mk he
   clear he hbq
   go_upto_region 6 with (fail)
   refine start_ (n := 10) (S := (fun w' => Below wo.heap.size wo w')) (ds := []) #[false, false, false, false, false, false, false, false, false, false] (by kernel_rfl) rfl rfl (below_drew (Below.refl _ _)) (fun hHeld => ?_)
   refine with_tabW put.tab6 put.bits6 (fun HT_ HW_ => ?_)
   refine pureS (i := 0) (N := (some 15)) #[true, false, false, false, false, false, false, false, false, false] HT_ ?_
   refine pureS (i := 1) (N := (some 16)) #[true, true, false, false, false, false, false, false, false, false] HT_ ?_
   refine pureS (i := 2) (N := (some 17)) #[true, true, true, false, false, false, false, false, false, false] HT_ ?_
   refine pureS (i := 4) (N := (some 19)) #[true, true, true, false, true, false, false, false, false, false] HT_ ?_
   refine pureS (i := 5) (N := (some 20)) #[true, true, true, false, true, true, false, false, false, false] HT_ ?_
   refine pureS (i := 6) (N := (some 21)) #[true, true, true, false, true, true, true, false, false, false] HT_ ?_
   refine take_ (i := 3) (N := (some 18)) (v := ?_) (a' := ?_) #[true, true, true, true, true, true, true, false, false, false] rfl rfl (take_ofW HT_.out HW_.out (by kernel_rfl)) (fun _ _ _ h => h) (Or.inl ⟨by rfl, ?_⟩) hHeld ?_ ?_
   rotate_left
   ·intro w' s0
    refine Eq.trans (load32_run (x := x) (v := (.slice A3 x.f2.length c3)) _ (p := .tmp 3) ?ho_ ?hp_ (blk_cells (blk_below HX.out s0))) ?hr_
    case ho_ => rfl
    case hp_ => rfl
    case hr_ => rfl
   rotate_left
   ·simp only [Act.put, List.setIfInBounds_toArray, List.set_cons_zero, List.set_cons_succ, i64_w, i32_w]
    rfl
   refine take_ (i := 7) (N := (some 22)) (v := ?_) (a' := ?_) #[true, true, true, true, true, true, true, true, false, false] rfl rfl (take_ofW HT_.out HW_.out (by kernel_rfl)) (fun _ _ _ h => h) (Or.inl ⟨by rfl, ?_⟩) hHeld ?_ ?_
   rotate_left
   ·intro w' s0
    refine Eq.trans (load32_run (x := y) (v := (.slice A4 y.f2.length c4)) _ (p := .tmp 21) ?ho_ ?hp_ (fun j u hj => HYC.out w' (HB.out.trans (s0.mono HB.out.size)) j u hj)) ?hr_
    case ho_ => rfl
    case hp_ => rfl
    case hr_ => rfl
   rotate_left
   ·simp only [Act.put, List.setIfInBounds_toArray, List.set_cons_zero, List.set_cons_succ, i64_w, i32_w]
    rfl
   refine one_ (i := 8) (N := (some 23)) #[true, true, true, true, true, true, true, true, true, false] rfl rfl (one_of HT_.out (by kernel_rfl)) (by decide) (fun K hK => ?_)
   refine goes_ Try.func73 (by kernel_rfl) rfl #[(.agg #[.int .i64 x.f0.f0, .int .i64 x.f0.f1, .int .i64 x.f1, (.slice A3 x.f2.length c3), .int .i64 x.f3, .int .i64 x.f4.f0, .int .i64 x.f4.f1, .int .i64 x.f5.f0, .int .i64 x.f5.f1, .int .i64 x.f6.f0, .int .i64 x.f6.f1, .string x.f7, .string x.f8]), (.agg #[.int .i64 y.f0.f0, .int .i64 y.f0.f1, .int .i64 y.f1, (.slice A4 y.f2.length c4), .int .i64 y.f3, .int .i64 y.f4.f0, .int .i64 y.f4.f1, .int .i64 y.f5.f0, .int .i64 y.f5.f1, .int .i64 y.f6.f0, .int .i64 y.f6.f1, .string y.f7, .string y.f8])] (by rfl) rfl rfl (by (try simp only [List.map_toArray, List.map_cons, List.map_nil]); first | done | rfl) ?_
   have hH := hHeld
   refine (before_calls x A3 c3 y A4 c4).mono ?_
   rw [HBF.out]
   rintro e w1 ⟨rfl, hb_⟩
   refine ⟨_, rfl, ?_⟩
   have hS : Below wo.heap.size wo w1 := hH.trans (hb_.mono hH.size)
   clear hb_ hH hHeld
   refine hK.out _ _ (hS) (fun hHeld => ?_)
   clear hK K
   refine norm_ (a' := ?_) ?_ ?_
   rotate_left
   ·show Act.put _ (some 23) _ = _
    simp only [Act.put, List.setIfInBounds_toArray, List.set_cons_zero, List.set_cons_succ, i64_w, i32_w]
    rfl
   refine pureS (i := 9) (N := (some 24)) #[true, true, true, true, true, true, true, true, true, true] HT_ ?_
   refine done_ (done_of HT_.out (by kernel_rfl)) ?_
   have n_ := Aside0.mk (blk_below HX.out hHeld); clear HX; have HX := n_; clear n_; have n_ := Aside0.mk (Kd.N_below HN.out hHeld); clear HN; have HN := n_; clear n_; have n_ := Aside0.mk (HB.out.trans (hHeld.mono HB.out.size)); clear HB; have HB := n_; clear n_ hHeld
   cases bq with
   | true =>
    go_wp2_with (first | ((with_reducible refine gate_dst (N := 26) rfl ?_); refine load32_ev rfl (N := 26) rfl x (.slice A3 x.f2.length c3) (p := .tmp 3) rfl (ad := ⟨gb, 0, none⟩) rfl (blk_cells HX.out) ?_) | ((with_reducible refine gate_builtin (b := .append) (xs := #[.tmp 25, .tmp 27]) rfl ?_); at_builtin; refine app32 (w0 := w) w.heap.size rfl (.tmp 25) (.tmp 27) rfl vo o x A3 c3 (fun k => ((P0 k ∨ P1 k) ∨ w.heap.size ≤ k) ∧ k ≠ gb) rfl rfl (Kd.V_mono (Kd.V_below HXV.out HB.out) (fun k hk => ⟨⟨.inl hk.1, fun e => by have h1_ := HG.out; have h2_ := hk.2; omega⟩, fun e => by have h1_ := Kd.N_base HN.out k e.symm; have h2_ := hk.2; omega⟩)) (fun k hk => ⟨.inr (Nat.le_trans HB.out.size hk), fun e => by have h_ := blk_lt HX.out; omega⟩) HN.out HB.out HB.out.size (by have h_ := HON.out; (try simp only [List.length_append, List.length_singleton]); omega) ?_; intro v5 w2 hN hb hg_ hat_; have n_ := Aside0.mk ((hg_.block gb (blk_lt HX.out) (Kd.N_away HN.out (fun k hk => hk.2))).trans HX.out); clear HX HB HN; have HX := n_; clear n_; have HB := Aside0.mk hb; have HN := Aside0.mk hN; clear hN hb hg_ hat_) | ((with_reducible refine gate_dst (N := 33) rfl ?_); refine load32_ev rfl (N := 33) rfl y (.slice A4 y.f2.length c4) (p := .tmp 32) rfl rfl (fun j u hj => HYC.out _ HB.out j u hj) ?_) | ((with_reducible refine gate_builtin (b := .append) (xs := #[.tmp 29, .tmp 34]) rfl ?_); at_builtin; refine app32 (w0 := w) w.heap.size rfl (.tmp 29) (.tmp 34) rfl _ (o ++ [x]) y A4 c4 (fun k => ((P0 k ∨ P1 k) ∨ w.heap.size ≤ k) ∧ k ≠ gb) rfl rfl (Kd.V_mono (Kd.V_below HYV.out HB.out) (fun k hk => ⟨⟨.inl hk.1, fun e => by have h1_ := HG.out; have h2_ := hk.2; omega⟩, fun e => by have h1_ := Kd.N_base HN.out k e.symm; have h2_ := hk.2; omega⟩)) (fun k hk => ⟨.inr (Nat.le_trans HB.out.size hk), fun e => by have h_ := blk_lt HX.out; omega⟩) HN.out HB.out HB.out.size (by have h_ := HON.out; (try simp only [List.length_append, List.length_singleton]); omega) ?_; intro v5 w2 hN hb hg_ hat_; have n_ := Aside0.mk ((hg_.block gb (blk_lt HX.out) (Kd.N_away HN.out (fun k hk => hk.2))).trans HX.out); clear HX HB HN; have HX := n_; clear n_; have HB := Aside0.mk hb; have HN := Aside0.mk hN; clear hN hb hg_ hat_))
    rw [HIW.out]
    exact ⟨⟨i + 1, (o ++ [x]) ++ [y], true, _, rfl, rfl, rfl, ⟨HI'.out⟩, HN, HX, HB, ⟨by rw [if_pos rfl, List.append_assoc, List.append_assoc]; exact HE.out⟩, ⟨by have h1_ : o.length ≤ i + 0 := HO.out; rw [List.length_append, List.length_append]; show o.length + 1 + 1 ≤ i + 1 + 1; omega⟩⟩, dec_lt HI'.out⟩
   | false =>
    go_wp2_with (first | ((with_reducible refine gate_dst (N := 33) rfl ?_); refine load32_ev rfl (N := 33) rfl y (.slice A4 y.f2.length c4) (p := .tmp 32) rfl rfl (fun j u hj => HYC.out _ HB.out j u hj) ?_) | ((with_reducible refine gate_builtin (b := .append) (xs := #[.tmp 29, .tmp 34]) rfl ?_); at_builtin; refine app32 (w0 := w) w.heap.size rfl (.tmp 29) (.tmp 34) rfl vo o y A4 c4 (fun k => ((P0 k ∨ P1 k) ∨ w.heap.size ≤ k) ∧ k ≠ gb) rfl rfl (Kd.V_mono (Kd.V_below HYV.out HB.out) (fun k hk => ⟨⟨.inl hk.1, fun e => by have h1_ := HG.out; have h2_ := hk.2; omega⟩, fun e => by have h1_ := Kd.N_base HN.out k e.symm; have h2_ := hk.2; omega⟩)) (fun k hk => ⟨.inr (Nat.le_trans HB.out.size hk), fun e => by have h_ := blk_lt HX.out; omega⟩) HN.out HB.out HB.out.size (by have h_ := HON.out; (try simp only [List.length_append, List.length_singleton]); omega) ?_; intro v5 w2 hN hb hg_ hat_; have n_ := Aside0.mk ((hg_.block gb (blk_lt HX.out) (Kd.N_away HN.out (fun k hk => hk.2))).trans HX.out); clear HX HB HN; have HX := n_; clear n_; have HB := Aside0.mk hb; have HN := Aside0.mk hN; clear hN hb hg_ hat_))
    rw [HIW.out]
    exact ⟨⟨i + 1, o ++ [y], false, _, rfl, rfl, rfl, ⟨HI'.out⟩, HN, HX, HB, ⟨by rw [if_neg (by decide), List.append_assoc]; exact HE.out⟩, ⟨by rw [List.length_append]; exact Nat.succ_le_succ HO.out⟩⟩, dec_lt HI'.out⟩
end Go.Proofs.Ytnopjjilpgekfaa.PCa
namespace Go.Proofs.Ytnopjjilpgekfaa.PCa
open Go.RowKit Go.Proofs.YtnopjjilpgekfaaW.PrintWords Go.Proofs.YtnopjjilpgekfaaW.PrintLast Go.Proofs.YtnopjjilpgekfaaW.PrintMore
attribute [local go_sem] max2_int min2_int max_two min_two max_three min_three max_four min_four
set_option linter.unusedVariables false
set_option linter.unusedSimpArgs false
def rtb.T2 : Bool × List (List Nat × List Nat) := (true, [([], []), ([], []), ([1], [1]), ([0, 2, 0], [0]), ([3, 0, 3], []), ([2, 4, 0, 1, 2, 3, 4], [2])])
def rtb.B2 : List Nat := [0, 0, 2, 7, 15, 31]
theorem rtb.tab2 : rtab .any (opsOf Try.f23 2) = rtb.T2 := by kernel_rfl
theorem rtb.bits2 : waitsOk rtb.T2.2 rtb.B2 = true := by kernel_rfl
def rtb.T4 : Bool × List (List Nat × List Nat) := (true, [([], []), ([], []), ([1], [1]), ([0, 2, 0], [0]), ([3, 0, 3], []), ([2, 4, 0, 1, 2, 3, 4], [2])])
def rtb.B4 : List Nat := [0, 0, 2, 7, 15, 31]
theorem rtb.tab4 : rtab .any (opsOf Try.f23 4) = rtb.T4 := by kernel_rfl
theorem rtb.bits4 : waitsOk rtb.T4.2 rtb.B4 = true := by kernel_rfl
def rtb.T10 : Bool × List (List Nat × List Nat) := (true, [([], []), ([0], [0]), ([], []), ([2], [2]), ([], []), ([4], [4]), ([3, 5, 5], [3, 5]), ([1, 6], [1, 6]), ([7, 6, 0, 1, 2, 3, 4, 5, 6, 7], [7]), ([8, 0, 1, 2, 3, 4, 5, 6, 7, 8], []), ([9, 0, 1, 2, 3, 4, 5, 6, 7, 8, 9], [])])
def rtb.B10 : List Nat := [0, 1, 0, 4, 0, 16, 60, 127, 255, 511, 1023]
theorem rtb.tab10 : rtab .any (opsOf Try.f23 10) = rtb.T10 := by kernel_rfl
theorem rtb.bits10 : waitsOk rtb.T10.2 rtb.B10 = true := by kernel_rfl
/-- The blocks of a Take: the buffer's box, the change's, the result's. -/
structure TB (w W : World) (ga gb gc : Nat) (ca cb cn : Array Value) : Prop where
 bel : Below w.heap.size w W
 xa : W.heap[ga]? = some (.cells ca 52 (0, 0))
 xb : W.heap[gb]? = some (.cells cb 32 (0, 0))
 xc : W.heap[gc]? = some (.cells cn 52 (0, 0))
 na : w.heap.size ≤ ga
 nb : w.heap.size ≤ gb
 nc : w.heap.size ≤ gc
 ab : ga < gb
 bc : gb < gc
section
variable {w W W1 : World} {ga gb gc : Nat} {ca cb cn : Array Value}
theorem TB.below (h : TB w W ga gb gc ca cb cn) (hb : Below W.heap.size W W1) : TB w W1 ga gb gc ca cb cn :=
 ⟨h.bel.trans (hb.mono h.bel.size), blk_below h.xa hb, blk_below h.xb hb, blk_below h.xc hb, h.na, h.nb, h.nc, h.ab, h.bc⟩
theorem TB.grown (h : TB w W ga gb gc ca cb cn) {row : Option Nat} (hg : W.grownBy W1 row) (h1 : some ga ≠ row) (h2 : some gb ≠ row) (h3 : some gc ≠ row) (hr : ∀ k, row = some k → w.heap.size ≤ k := by intro k hk; first | (cases hk; done) | exact Kd.N_base ‹Aside0 (Kd.N _ _ _ _ _ _ _)›.out k hk) : TB w W1 ga gb gc ca cb cn :=
 ⟨h.bel.grown hg h.bel.size hr, (hg.block ga (blk_lt h.xa) h1).trans h.xa, (hg.block gb (blk_lt h.xb) h2).trans h.xb, (hg.block gc (blk_lt h.xc) h3).trans h.xc, h.na, h.nb, h.nc, h.ab, h.bc⟩
theorem TB.fresh (h : TB w W ga gb gc ca cb cn) (k : Nat) (hk : W.heap.size ≤ k) : k ≠ ga ∧ k ≠ gb ∧ k ≠ gc := by
 have h1 := blk_lt h.xa
 have h2 := blk_lt h.xb
 have h3 := blk_lt h.xc
 omega
theorem TB.old (h : TB w W ga gb gc ca cb cn) (k : Nat) (hk : k < w.heap.size) : k ≠ ga ∧ k ≠ gb ∧ k ≠ gc := by
 have h1 := h.na
 have h2 := h.nb
 have h3 := h.nc
 omega
end
def lenV : Value → Nat
 | .slice _ n _ => n
 | _ => 0
theorem own_is' (l : List S32) (x : S32) (hl : l.length < 1000) : ∃ r, topiaryref07_Own.f 1200 l x.f0.f1 x.f1 = some r ∧ decide (0 ≤ r) = ownX l x := own_is l x (by omega) 1200 (by omega)
theorem RT.err {w w' : World} {b0 : Nat} {P0 P1 : Nat → Prop} {room : Int} {A0 : Option Addr} {c0 : Nat} {l : List S32} {c : Int} (hl : Kd.V k32 32 w b0 P0 (.slice A0 l.length c0) l) (hb : Below w.heap.size w w') : RT w P0 P1 room (l, [], c) (.returned (.tuple #[.agg #[.int .i64 room, .slice A0 l.length c0], .slice none 0 0, .int .i64 c])) w' :=
 ⟨A0, c0, none, 0, rfl, Kd.V_mono (Kd.V_below hl hb) (fun k hk => .inl (.inl hk)), Kd.V_nil _ _ _ _ _, hb⟩
abbrev putX (x : S32) (l : List S32) : List S32 := l.take (cntX x l) ++ x :: l.drop (cntX x l)
theorem relF_stop {now : List Int} {out left : List S32} (h : ¬ 0 ≤ nextI now left 0) : relF left.length now out left = (out, left) := by
 cases hl : left.length with
 | zero => rfl
 | succ n => rw [relF, if_neg h]
theorem relF_go {now : List Int} {out left : List S32} {j : Nat} (hj : j < left.length) (h : nextI now left 0 = (j : Int)) : relF left.length now out left = relF (left.eraseIdx j).length (tickC now (rd_T32 left (j : Int)).f0.f1).1 (out ++ [rd_T32 left (j : Int)]) (left.eraseIdx j) := by
 rw [List.length_eraseIdx_of_lt hj]
 cases hl : left.length with
 | zero => omega
 | succ n =>
  rw [relF, h, if_pos (by omega), Int.toNat_natCast]
  rfl
set_option maxHeartbeats 8000000 in
set_option maxRecDepth 100000 in
theorem rtake_calls {w : World} {b0 b1 : Nat} {P0 P1 : Nat → Prop} (room : Int) (A0 : Option Addr) (c0 : Nat) (l : List S32) (hl : Kd.V k32 32 w b0 P0 (.slice A0 l.length c0) l) (hg : Good l) (hn : l.length < 1000) (A1 : Option Addr) (c1 : Nat) (known : List Int) (hk : Kd.C (Kd.int .i64) w A1 known.length known) (hkc : known.length ≤ c1)
  (x : S32) (A3 : Option Addr) (c3 : Nat) (hx : Kd.V (Kd.int .i64) 3 w b1 P1 (.slice A3 x.f2.length c3) x.f2) (hs : x.f7.size < 4611686018427387904) :
  Calls Try.prog 23 #[.agg #[.int .i64 room, .slice A0 l.length c0], .slice A1 known.length c1, (.agg #[.int .i64 x.f0.f0, .int .i64 x.f0.f1, .int .i64 x.f1, (.slice A3 x.f2.length c3), .int .i64 x.f3, .int .i64 x.f4.f0, .int .i64 x.f4.f1, .int .i64 x.f5.f0, .int .i64 x.f5.f1, .int .i64 x.f6.f0, .int .i64 x.f6.f1, .string x.f7, .string x.f8])] w (RT w P0 P1 room (takeF room l known x)) := by
 have hu52 := Try.underlying52
 have HL := Aside0.mk hl
 have HVL := Aside0.mk (Kd.V_bound hl)
 have HLC := Aside0.mk (Kd.V_reads' hl).2.2
 have HLL := Aside0.mk (Kd.V_reads' hl).2.1
 have HXV := Aside0.mk (Kd.V_bound hx)
 have HC3 := Aside0.mk (Kd.V_reads' hx).2.2
 have HL3 := Aside0.mk (Kd.V_reads' hx).2.1
 have HK := Aside0.mk hk
 have HKC := Aside0.mk hkc
 have HSZ := Aside0.mk hs
 have HGD := Aside0.mk hg
 have HNL := Aside0.mk hn
 obtain ⟨r, ho1, ho2⟩ := own_is' l x hn
 have HOW := Aside0.mk ho1
 have HO2 := Aside0.mk ho2
 obtain ⟨tk, htk⟩ : ∃ tk, takeF room l known x = tk := ⟨_, rfl⟩
 rw [htk]
 have HV := Aside0.mk htk
 clear htk hl hx hk hkc hs hg hn ho1 ho2
 go_enter Try.func23, Try.ntmps23
 by_cases k1 : chkC known = 0
 case neg =>
  obtain rfl : tk = (l, [], chkC known) := by rw [← HV.out, takeF, if_neg k1]
  have e1 : (chkC known != 0) = true := bne_iff_ne.2 k1
  clear k1
  go_wp2_with (first | ((with_reducible refine gate_dst (N := 3) rfl ?_); refine box_event ?hg (N := 3) ?hd (cs := #[.int .i64 room, (.slice A0 l.length c0)]) (t := 52) ?hr ?_; (case hd => rfl); (case hg => rfl); (case hr => first | (go_simp; done) | (go_simp; rfl)); intro ga hr_ w1 hbox hb; have HXA := Aside0.mk hbox; have HB := Aside0.mk hb; have HNA := Aside0.mk (Nat.le_of_eq hr_.symm); clear hbox hb hr_) | ((with_reducible refine gate_dst (N := 5) rfl ?_); refine box_event ?hg (N := 5) ?hd (cs := #[.int .i64 x.f0.f0, .int .i64 x.f0.f1, .int .i64 x.f1, (.slice A3 x.f2.length c3), .int .i64 x.f3, .int .i64 x.f4.f0, .int .i64 x.f4.f1, .int .i64 x.f5.f0, .int .i64 x.f5.f1, .int .i64 x.f6.f0, .int .i64 x.f6.f1, .string x.f7, .string x.f8]) (t := 32) ?hr ?_; (case hd => rfl); (case hg => rfl); (case hr => first | (go_simp; done) | (go_simp; rfl)); intro gb hr_ w2 hbox hb; have HNB := Aside0.mk (Nat.le_trans (Nat.le_refl _) (Nat.le_of_eq hr_.symm)); have n_ := Aside0.mk (blk_below HXA.out hb); have HXB := Aside0.mk hbox; have HB2 := Aside0.mk hb; have HAB := Aside0.mk (Nat.lt_of_lt_of_le (blk_lt HXA.out) (Nat.le_of_eq hr_.symm)); clear HXA; have HXA := n_; clear n_; clear hbox hb hr_) | ((with_reducible refine gate_dst (N := 6) rfl ?_); refine box_event ?hg (N := 6) ?hd (cs := #[.int .i64 0, (.slice none 0 0)]) (t := 52) ?hr ?_; (case hd => rfl); (case hg => rfl); (case hr => first | (go_simp; done) | (go_simp; rfl)); intro gc hr_ w2 hbox hb; have HT : Aside0 (TB w w2 ga gb gc (bA room (.slice A0 l.length c0)) (chA x (.slice A3 x.f2.length c3)) (bA 0 (.slice none 0 0))) := ⟨(HB.out.trans (HB2.out.mono HB.out.size)).trans (hb.mono (Nat.le_trans HB.out.size HB2.out.size)), blk_below HXA.out hb, blk_below HXB.out hb, hbox, HNA.out, Nat.le_trans HNA.out (Nat.le_of_lt HAB.out), Nat.le_trans (Nat.le_trans HNA.out (Nat.le_of_lt HAB.out)) (Nat.le_of_lt (Nat.lt_of_lt_of_le (blk_lt HXB.out) (Nat.le_of_eq hr_.symm))), HAB.out, Nat.lt_of_lt_of_le (blk_lt HXB.out) (Nat.le_of_eq hr_.symm)⟩; clear HXA HXB HB HB2 HNA HNB HAB; clear hbox hb hr_) | (go_at_call 46; refine (topiaryref02_Check.calls 66 A1 c1 known _ _ (Kd.C_below HK.out HT.out.bel) HKC.out (ref_Check_is known 66 (by decide))).mono ?_; rintro e w2 ⟨rfl, ⟨nd, hnd⟩⟩; have hb_ := drew_below hnd; clear hnd; have n_ := Aside0.mk (HT.out.below hb_); clear HT; have HT := n_; clear n_ hb_))
  obtain ⟨wo, rfl⟩ : ∃ wo, wo = w2 := ⟨w2, rfl⟩
  refine start_ (n := 6) (S := (fun w' => Below wo.heap.size wo w')) (ds := [3]) #[false, false, false, false, false, false] (by kernel_rfl) rfl rfl (below_drew (Below.refl _ _)) (fun hHeld => ?_)
  refine with_tabW rtb.tab2 rtb.bits2 (fun HT_ HW_ => ?_)
  refine pureS (i := 1) (N := (some 17)) #[false, true, false, false, false, false] HT_ ?_
  refine take_ (i := 0) (N := (some 16)) (v := ?_) (a' := ?_) #[true, true, false, false, false, false] rfl rfl (take_ofW HT_.out HW_.out (by kernel_rfl)) (fun _ _ _ h => h) (Or.inl ⟨by rfl, ?_⟩) hHeld ?_ ?_
  rotate_left
  ·intro w' s0
   refine Eq.trans (load52_run (room := room) (v := (.slice A0 l.length c0)) _ (p := .tmp 3) ?ho_ ?hp_ (blk52 (HT.out.below s0).xa)) ?hr_
   case ho_ => rfl
   case hp_ => rfl
   case hr_ => rfl
  rotate_left
  ·simp only [Act.put, List.setIfInBounds_toArray, List.set_cons_zero, List.set_cons_succ, i64_w, i32_w]
   rfl
  refine one_ (i := 2) (N := (some 18)) #[true, true, true, false, false, false] rfl rfl (one_of HT_.out (by kernel_rfl)) (by decide) (fun K hK => ?_)
  refine goes_ Try.func46 (by kernel_rfl) rfl #[.slice A1 known.length c1] (by rfl) rfl rfl (by (try simp only [List.map_toArray, List.map_cons, List.map_nil]); first | done | rfl) ?_
  have hH := hHeld
  refine (topiaryref02_Check.calls 66 A1 c1 known _ _ (Kd.C_below HK.out (HT.out.below hH).bel) HKC.out (ref_Check_is known 66 (by decide))).mono ?_
  rintro e w1 ⟨rfl, ⟨nd, hnd⟩⟩
  have hb_ := drew_below hnd; clear hnd
  refine ⟨_, rfl, ?_⟩
  have hS : Below wo.heap.size wo w1 := hH.trans (hb_.mono hH.size)
  clear hb_ hH hHeld
  refine hK.out _ _ (hS) (fun hHeld => ?_)
  clear hK K
  refine norm_ (a' := ?_) ?_ ?_
  rotate_left
  ·show Act.put _ (some 18) _ = _
   simp only [Act.put, List.setIfInBounds_toArray, List.set_cons_zero, List.set_cons_succ, i64_w, i32_w]
   rfl
  refine last_ (i := 3) (N := none) #[true, true, true, true, false, false] rfl rfl (one_of HT_.out (by kernel_rfl)) (by decide) (fun K hK => ?_)
  have h6_ := hHeld
  refine skip_ (w1 := _) (by rfl) rfl (store52_run (room := room) (v := (.slice A0 l.length c0)) _ rfl rfl rfl rfl (HT.out.below h6_).xc rfl) ?_
  have HXs := Aside0.mk (setRow_heap _ gc _ (bA room (.slice A0 l.length c0)) 52 (0, 0) (HT.out.below h6_).xc)
  have HBs := Aside0.mk (row_below (HT.out.below h6_).bel HT.out.nc (HT.out.below h6_).xc (bA room (.slice A0 l.length c0)))
  have hS : Below w.heap.size w _ := HBs.out
  clear hHeld h6_
  refine hK.out _ _ ?_
  clear hK K
  refine pureS (i := 4) (N := (some 7)) #[true, true, true, true, true, false] HT_ ?_
  refine pureS (i := 5) (N := (some 8)) #[true, true, true, true, true, true] HT_ ?_
  refine done_ (done_of HT_.out (by kernel_rfl)) ?_
  try go_wp2
  refine bodyPost_ret (results_ctt rfl _ _ gc 52 (bA room (.slice A0 l.length c0)) (0, 0) _ rfl HXs.out hu52 rfl (by kernel_rfl)) rfl ?_
  exact RT.err HL.out HBs.out
 have HV1 : Aside0 (tk = if checkX x = 0 then (if (withinX known x || ownX l x) = true then (l, [], 5) else if ripeC known x = true then ((relF l.length (tickC known x.f0.f1).1 [x] l).2, (relF l.length (tickC known x.f0.f1).1 [x] l).1, 0) else if room ≤ l.length then (l, [], 6) else (putX x l, [], 0)) else (l, [], checkX x)) := ⟨by rw [← HV.out, takeF, if_pos k1]⟩
 clear HV
 have e1 : (chkC known != 0) = false := bne_eq_false_iff_eq.2 k1
 clear k1
 go_upto_if 21 with (first | ((with_reducible refine gate_dst (N := 3) rfl ?_); refine box_event ?hg (N := 3) ?hd (cs := #[.int .i64 room, (.slice A0 l.length c0)]) (t := 52) ?hr ?_; (case hd => rfl); (case hg => rfl); (case hr => first | (go_simp; done) | (go_simp; rfl)); intro ga hr_ w1 hbox hb; have HXA := Aside0.mk hbox; have HB := Aside0.mk hb; have HNA := Aside0.mk (Nat.le_of_eq hr_.symm); clear hbox hb hr_) | ((with_reducible refine gate_dst (N := 5) rfl ?_); refine box_event ?hg (N := 5) ?hd (cs := #[.int .i64 x.f0.f0, .int .i64 x.f0.f1, .int .i64 x.f1, (.slice A3 x.f2.length c3), .int .i64 x.f3, .int .i64 x.f4.f0, .int .i64 x.f4.f1, .int .i64 x.f5.f0, .int .i64 x.f5.f1, .int .i64 x.f6.f0, .int .i64 x.f6.f1, .string x.f7, .string x.f8]) (t := 32) ?hr ?_; (case hd => rfl); (case hg => rfl); (case hr => first | (go_simp; done) | (go_simp; rfl)); intro gb hr_ w2 hbox hb; have HNB := Aside0.mk (Nat.le_trans (Nat.le_refl _) (Nat.le_of_eq hr_.symm)); have n_ := Aside0.mk (blk_below HXA.out hb); have HXB := Aside0.mk hbox; have HB2 := Aside0.mk hb; have HAB := Aside0.mk (Nat.lt_of_lt_of_le (blk_lt HXA.out) (Nat.le_of_eq hr_.symm)); clear HXA; have HXA := n_; clear n_; clear hbox hb hr_) | ((with_reducible refine gate_dst (N := 6) rfl ?_); refine box_event ?hg (N := 6) ?hd (cs := #[.int .i64 0, (.slice none 0 0)]) (t := 52) ?hr ?_; (case hd => rfl); (case hg => rfl); (case hr => first | (go_simp; done) | (go_simp; rfl)); intro gc hr_ w2 hbox hb; have HT : Aside0 (TB w w2 ga gb gc (bA room (.slice A0 l.length c0)) (chA x (.slice A3 x.f2.length c3)) (bA 0 (.slice none 0 0))) := ⟨(HB.out.trans (HB2.out.mono HB.out.size)).trans (hb.mono (Nat.le_trans HB.out.size HB2.out.size)), blk_below HXA.out hb, blk_below HXB.out hb, hbox, HNA.out, Nat.le_trans HNA.out (Nat.le_of_lt HAB.out), Nat.le_trans (Nat.le_trans HNA.out (Nat.le_of_lt HAB.out)) (Nat.le_of_lt (Nat.lt_of_lt_of_le (blk_lt HXB.out) (Nat.le_of_eq hr_.symm))), HAB.out, Nat.lt_of_lt_of_le (blk_lt HXB.out) (Nat.le_of_eq hr_.symm)⟩; clear HXA HXB HB HB2 HNA HNB HAB; clear hbox hb hr_) | (go_at_call 46; refine (topiaryref02_Check.calls 66 A1 c1 known _ _ (Kd.C_below HK.out HT.out.bel) HKC.out (ref_Check_is known 66 (by decide))).mono ?_; rintro e w2 ⟨rfl, ⟨nd, hnd⟩⟩; have hb_ := drew_below hnd; clear hnd; have n_ := Aside0.mk (HT.out.below hb_); clear HT; have HT := n_; clear n_ hb_) | ((with_reducible refine gate_dst (N := 19) rfl ?_); refine load32_ev rfl (N := 19) rfl x (.slice A3 x.f2.length c3) (p := .tmp 5) rfl (ad := ⟨gb, 0, none⟩) rfl (blk_cells HT.out.xb) ?_) | (go_at_call 47; refine (check05_calls x.f0.f0 x.f0.f1 x.f1 A3 x.f2 c3 x.f3 x.f4.f0 x.f4.f1 x.f5.f0 x.f5.f1 x.f6.f0 x.f6.f1 x.f7 x.f8 (Kd.C_below HC3.out HT.out.bel) HL3.out HSZ.out).mono ?_; rintro e w2 ⟨rfl, hb_⟩; have n_ := Aside0.mk (HT.out.below hb_); clear HT; have HT := n_; clear n_ hb_))
 have hck : checkC x.f0.f0 x.f0.f1 x.f1 x.f2 x.f3 x.f4.f0 x.f4.f1 x.f5.f0 x.f5.f1 x.f6.f0 x.f6.f1 x.f7 x.f8 = checkX x := rfl
 rw [hck]
 clear hck
 obtain ⟨bb, hbb⟩ : ∃ bb, (checkX x != 0) = bb := ⟨_, rfl⟩
 rw [hbb]
 by_cases k2 : checkX x = 0
 case neg =>
  obtain rfl : tk = (l, [], checkX x) := by rw [HV1.out, if_neg k2]
  obtain rfl : bb = true := by rw [← hbb]; exact bne_iff_ne.2 k2
  clear k2
  go_wp2_with (fail)
  obtain ⟨wo, rfl⟩ : ∃ wo, wo = w2 := ⟨w2, rfl⟩
  refine start_ (n := 6) (S := (fun w' => Below wo.heap.size wo w')) (ds := [3]) #[false, false, false, false, false, false] (by kernel_rfl) rfl rfl (below_drew (Below.refl _ _)) (fun hHeld => ?_)
  refine with_tabW rtb.tab4 rtb.bits4 (fun HT_ HW_ => ?_)
  refine take_ (i := 0) (N := (some 22)) (v := ?_) (a' := ?_) #[true, false, false, false, false, false] rfl rfl (take_ofW HT_.out HW_.out (by kernel_rfl)) (fun _ _ _ h => h) (Or.inl ⟨by rfl, ?_⟩) hHeld ?_ ?_
  rotate_left
  ·intro w' s0
   refine Eq.trans (load52_run (room := room) (v := (.slice A0 l.length c0)) _ (p := .tmp 3) ?ho_ ?hp_ (blk52 (HT.out.below s0).xa)) ?hr_
   case ho_ => rfl
   case hp_ => rfl
   case hr_ => rfl
  rotate_left
  ·simp only [Act.put, List.setIfInBounds_toArray, List.set_cons_zero, List.set_cons_succ, i64_w, i32_w]
   rfl
  refine take_ (i := 1) (N := (some 23)) (v := ?_) (a' := ?_) #[true, true, false, false, false, false] rfl rfl (take_ofW HT_.out HW_.out (by kernel_rfl)) (fun _ _ _ h => h) (Or.inl ⟨by rfl, ?_⟩) hHeld ?_ ?_
  rotate_left
  ·intro w' s0
   refine Eq.trans (load32_run (x := x) (v := (.slice A3 x.f2.length c3)) _ (p := .tmp 5) ?ho_ ?hp_ (blk_cells (HT.out.below s0).xb)) ?hr_
   case ho_ => rfl
   case hp_ => rfl
   case hr_ => rfl
  rotate_left
  ·simp only [Act.put, List.setIfInBounds_toArray, List.set_cons_zero, List.set_cons_succ, i64_w, i32_w]
   rfl
  refine one_ (i := 2) (N := (some 24)) #[true, true, true, false, false, false] rfl rfl (one_of HT_.out (by kernel_rfl)) (by decide) (fun K hK => ?_)
  refine goes_ Try.func47 (by kernel_rfl) rfl #[(.agg #[.int .i64 x.f0.f0, .int .i64 x.f0.f1, .int .i64 x.f1, (.slice A3 x.f2.length c3), .int .i64 x.f3, .int .i64 x.f4.f0, .int .i64 x.f4.f1, .int .i64 x.f5.f0, .int .i64 x.f5.f1, .int .i64 x.f6.f0, .int .i64 x.f6.f1, .string x.f7, .string x.f8])] (by rfl) rfl rfl (by (try simp only [List.map_toArray, List.map_cons, List.map_nil]); first | done | rfl) ?_
  have hH := hHeld
  refine (check05_calls x.f0.f0 x.f0.f1 x.f1 A3 x.f2 c3 x.f3 x.f4.f0 x.f4.f1 x.f5.f0 x.f5.f1 x.f6.f0 x.f6.f1 x.f7 x.f8 (Kd.C_below HC3.out (HT.out.below hH).bel) HL3.out HSZ.out).mono ?_
  rintro e w1 ⟨rfl, hb_⟩
  refine ⟨_, rfl, ?_⟩
  have hS : Below wo.heap.size wo w1 := hH.trans (hb_.mono hH.size)
  clear hb_ hH hHeld
  refine hK.out _ _ (hS) (fun hHeld => ?_)
  clear hK K
  refine norm_ (a' := ?_) ?_ ?_
  rotate_left
  ·show Act.put _ (some 24) _ = _
   simp only [Act.put, List.setIfInBounds_toArray, List.set_cons_zero, List.set_cons_succ, i64_w, i32_w]
   rfl
  refine last_ (i := 3) (N := none) #[true, true, true, true, false, false] rfl rfl (one_of HT_.out (by kernel_rfl)) (by decide) (fun K hK => ?_)
  have h6_ := hHeld
  refine skip_ (w1 := _) (by rfl) rfl (store52_run (room := room) (v := (.slice A0 l.length c0)) _ rfl rfl rfl rfl (HT.out.below h6_).xc rfl) ?_
  have HXs := Aside0.mk (setRow_heap _ gc _ (bA room (.slice A0 l.length c0)) 52 (0, 0) (HT.out.below h6_).xc)
  have HBs := Aside0.mk (row_below (HT.out.below h6_).bel HT.out.nc (HT.out.below h6_).xc (bA room (.slice A0 l.length c0)))
  have hS : Below w.heap.size w _ := HBs.out
  clear hHeld h6_
  refine hK.out _ _ ?_
  clear hK K
  refine pureS (i := 4) (N := (some 7)) #[true, true, true, true, true, false] HT_ ?_
  refine pureS (i := 5) (N := (some 8)) #[true, true, true, true, true, true] HT_ ?_
  refine done_ (done_of HT_.out (by kernel_rfl)) ?_
  try go_wp2
  refine bodyPost_ret (results_ctt rfl _ _ gc 52 (bA room (.slice A0 l.length c0)) (0, 0) _ rfl HXs.out hu52 rfl (by kernel_rfl)) rfl ?_
  exact RT.err HL.out HBs.out
 have hv2 := HV1.out
 rw [if_pos k2] at hv2
 have HV2 := Aside0.mk hv2
 clear HV1 hv2
 obtain rfl : bb = false := by rw [← hbb]; exact bne_eq_false_iff_eq.2 k2
 have hq := check_ok k2
 have HRI := Aside0.mk (ripe_is (x := x) (known := known) hq.2.2.2.2.2 (by have := hq.1; omega) (by have h1_ := hq.2.1; have h2_ := hq.2.2.1; omega) 71 (by decide))
 have HCP := Aside0.mk (ref_copy_is x hq.2.2.2.2.2)
 clear k2 hq
 by_cases k3 : (withinX known x || ownX l x) = true
 case pos =>
  obtain rfl : tk = (l, [], 5) := by rw [HV2.out, if_pos k3]
  have k4 : withinX known x = true ∨ (withinX known x = false ∧ decide (0 ≤ r) = true) := by
   rw [HO2.out]
   revert k3
   cases withinX known x <;> cases ownX l x <;> decide
  clear k3
  rcases k4 with k5 | ⟨k5, k6⟩
  all_goals
   go_wp2_with (first | ((with_reducible refine gate_dst (N := 25) rfl ?_); refine load32_ev rfl (N := 25) rfl x (.slice A3 x.f2.length c3) (p := .tmp 5) rfl (ad := ⟨gb, 0, none⟩) rfl (blk_cells HT.out.xb) ?_) | (go_at_call 50; refine (topiaryref07_Within.calls x.f0.f0 x.f0.f1 x.f1 A3 c3 x.f2 x.f3 x.f4.f0 x.f4.f1 x.f5.f0 x.f5.f1 x.f6.f0 x.f6.f1 x.f7 x.f8 A1 c1 known _ _ (Kd.C_below HC3.out HT.out.bel) HL3.out (Kd.C_below HK.out HT.out.bel) HKC.out (within_is known x)).mono ?_; rintro e w2 ⟨rfl, hb_⟩; have n_ := Aside0.mk (HT.out.below hb_); clear HT; have HT := n_; clear n_ hb_; have q0 : w2.cell? ⟨ga, 0, none⟩ = some (.int .i64 room) := (blk_cell HT.out.xa 0).trans rfl; have q1 : w2.cell? ⟨ga, 1, none⟩ = some (.slice A0 l.length c0) := (blk_cell HT.out.xa 1).trans rfl; have q4 : w2.cell? ⟨gb, 1, none⟩ = some (.int .i64 x.f0.f1) := (blk_cell HT.out.xb 1).trans rfl; have q5 : w2.cell? ⟨gb, 2, none⟩ = some (.int .i64 x.f1) := (blk_cell HT.out.xb 2).trans rfl) | (go_at_call 51; refine (topiaryref07_Own.calls 1200 A0 c0 l x.f0.f1 x.f1 _ _ (Kd.C_below HLC.out HT.out.bel) HLL.out HOW.out).mono ?_; rintro e w2 ⟨rfl, ⟨nd, hnd⟩⟩; clear q0 q1 q4 q5; have hb_ := drew_below hnd; clear hnd; have n_ := Aside0.mk (HT.out.below hb_); clear HT; have HT := n_; clear n_ hb_) | ((with_reducible refine gate_dst (N := 39) rfl ?_); refine load52_ev rfl (N := 39) rfl room (.slice A0 l.length c0) (p := .tmp 3) rfl (ad := ⟨ga, 0, none⟩) rfl (blk52 HT.out.xa) ?_) | ((with_reducible refine gate_store (t := 52) (p := 6) (v := .tmp 39) rfl ?_); refine store52_ev rfl rfl room (.slice A0 l.length c0) (p := .tmp 6) (q := .tmp 39) rfl (g := gc) rfl rfl rfl HT.out.xc rfl ?_; intro ws hb_ hg_; have HXs := Aside0.mk hb_; have HGs := Aside0.mk hg_; have HBs := Aside0.mk (HT.out.bel.grown hg_ HT.out.bel.size (fun k hk => by injection hk with hk; rw [← hk]; exact HT.out.nc)); clear hb_ hg_))
   refine bodyPost_ret (results_ctt rfl _ _ gc 52 (bA room (.slice A0 l.length c0)) (0, 0) _ rfl HXs.out hu52 rfl (by kernel_rfl)) rfl ?_
   exact RT.err HL.out HBs.out
 have hv3 := HV2.out
 rw [if_neg k3] at hv3
 have HV3 := Aside0.mk hv3
 clear HV2 hv3
 have k5 : withinX known x = false := by
  revert k3
  cases withinX known x <;> simp
 have k6 : decide (0 ≤ r) = false := by
  rw [HO2.out]
  revert k3
  cases ownX l x <;> simp
 have HO3 : Aside0 (ownX l x = false) := ⟨by rw [← HO2.out]; exact k6⟩
 clear k3
 go_upto_if 43 with (first | ((with_reducible refine gate_dst (N := 25) rfl ?_); refine load32_ev rfl (N := 25) rfl x (.slice A3 x.f2.length c3) (p := .tmp 5) rfl (ad := ⟨gb, 0, none⟩) rfl (blk_cells HT.out.xb) ?_) | (go_at_call 50; refine (topiaryref07_Within.calls x.f0.f0 x.f0.f1 x.f1 A3 c3 x.f2 x.f3 x.f4.f0 x.f4.f1 x.f5.f0 x.f5.f1 x.f6.f0 x.f6.f1 x.f7 x.f8 A1 c1 known _ _ (Kd.C_below HC3.out HT.out.bel) HL3.out (Kd.C_below HK.out HT.out.bel) HKC.out (within_is known x)).mono ?_; rintro e w2 ⟨rfl, hb_⟩; have n_ := Aside0.mk (HT.out.below hb_); clear HT; have HT := n_; clear n_ hb_; have q0 : w2.cell? ⟨ga, 0, none⟩ = some (.int .i64 room) := (blk_cell HT.out.xa 0).trans rfl; have q1 : w2.cell? ⟨ga, 1, none⟩ = some (.slice A0 l.length c0) := (blk_cell HT.out.xa 1).trans rfl; have q4 : w2.cell? ⟨gb, 1, none⟩ = some (.int .i64 x.f0.f1) := (blk_cell HT.out.xb 1).trans rfl; have q5 : w2.cell? ⟨gb, 2, none⟩ = some (.int .i64 x.f1) := (blk_cell HT.out.xb 2).trans rfl) | (go_at_call 51; refine (topiaryref07_Own.calls 1200 A0 c0 l x.f0.f1 x.f1 _ _ (Kd.C_below HLC.out HT.out.bel) HLL.out HOW.out).mono ?_; rintro e w2 ⟨rfl, ⟨nd, hnd⟩⟩; clear q0 q1 q4 q5; have hb_ := drew_below hnd; clear hnd; have n_ := Aside0.mk (HT.out.below hb_); clear HT; have HT := n_; clear n_ hb_) | ((with_reducible refine gate_dst (N := 41) rfl ?_); refine load32_ev rfl (N := 41) rfl x (.slice A3 x.f2.length c3) (p := .tmp 5) rfl (ad := ⟨gb, 0, none⟩) rfl (blk_cells HT.out.xb) ?_) | (go_at_call 48; refine (topiaryref09_Ripe.calls 71 A1 c1 known x.f0.f0 x.f0.f1 x.f1 A3 c3 x.f2 x.f3 x.f4.f0 x.f4.f1 x.f5.f0 x.f5.f1 x.f6.f0 x.f6.f1 x.f7 x.f8 _ _ (Kd.C_below HK.out HT.out.bel) HKC.out (Kd.C_below HC3.out HT.out.bel) HL3.out HRI.out).mono ?_; rintro e w2 ⟨rfl, hb_⟩; have n_ := Aside0.mk (HT.out.below hb_); clear HT; have HT := n_; clear n_ hb_; have q0 : w2.cell? ⟨ga, 0, none⟩ = some (.int .i64 room) := (blk_cell HT.out.xa 0).trans rfl; have q1 : w2.cell? ⟨ga, 1, none⟩ = some (.slice A0 l.length c0) := (blk_cell HT.out.xa 1).trans rfl; have q4 : w2.cell? ⟨gb, 1, none⟩ = some (.int .i64 x.f0.f1) := (blk_cell HT.out.xb 1).trans rfl; have q5 : w2.cell? ⟨gb, 2, none⟩ = some (.int .i64 x.f1) := (blk_cell HT.out.xb 2).trans rfl))
 clear k5 k6
 obtain ⟨rp, hrp⟩ : ∃ rp, ripeC known x = rp := ⟨_, rfl⟩
 rw [hrp]
 have hv4 := HV3.out
 rw [hrp] at hv4
 clear hrp HRI HV3
 cases rp with
 | false =>
  rw [Bool.not_false]
  rw [if_neg Bool.false_ne_true] at hv4
  by_cases k7 : room ≤ (l.length : Int)
  ·obtain rfl : tk = (l, [], 6) := by rw [hv4, if_pos k7]
   have e7 : decide (room ≤ (l.length : Int)) = true := decide_eq_true k7
   clear k7 hv4
   go_wp2_with (first | ((with_reducible refine gate_dst (N := 50) rfl ?_); refine load52_ev rfl (N := 50) rfl room (.slice A0 l.length c0) (p := .tmp 3) rfl (ad := ⟨ga, 0, none⟩) rfl (blk52 HT.out.xa) ?_) | ((with_reducible refine gate_store (t := 52) (p := 6) (v := .tmp 50) rfl ?_); refine store52_ev rfl rfl room (.slice A0 l.length c0) (p := .tmp 6) (q := .tmp 50) rfl (g := gc) rfl rfl rfl HT.out.xc rfl ?_; intro ws hb_ hg_; have HXs := Aside0.mk hb_; have HGs := Aside0.mk hg_; have HBs := Aside0.mk (HT.out.bel.grown hg_ HT.out.bel.size (fun k hk => by injection hk with hk; rw [← hk]; exact HT.out.nc)); clear hb_ hg_))
   refine bodyPost_ret (results_ctt rfl _ _ gc 52 (bA room (.slice A0 l.length c0)) (0, 0) _ rfl HXs.out hu52 rfl (by kernel_rfl)) rfl ?_
   exact RT.err HL.out HBs.out
  ·obtain rfl : tk = (putC x l, [], 0) := by rw [hv4, if_neg k7, HGD.out.put HO3.out]
   have e7 : decide (room ≤ (l.length : Int)) = false := decide_eq_false k7
   clear k7 hv4
   go_wp2_with (fail)
   clear q0 q1 q4 q5
   obtain ⟨wo, rfl⟩ : ∃ wo, wo = w2 := ⟨w2, rfl⟩
   refine start_ (n := 11) (S := (fun w' => Below wo.heap.size wo w')) (ds := [8]) #[false, false, false, false, false, false, false, false, false, false, false] (by kernel_rfl) rfl rfl (below_drew (Below.refl _ _)) (fun hHeld => ?_)
   refine with_tabW rtb.tab10 rtb.bits10 (fun HT_ HW_ => ?_)
   refine pureS (i := 0) (N := (some 51)) #[true, false, false, false, false, false, false, false, false, false, false] HT_ ?_
   refine pureS (i := 2) (N := (some 53)) #[true, false, true, false, false, false, false, false, false, false, false] HT_ ?_
   refine take_ (i := 1) (N := (some 52)) (v := ?_) (a' := ?_) #[true, true, true, false, false, false, false, false, false, false, false] rfl rfl (take_ofW HT_.out HW_.out (by kernel_rfl)) (fun _ _ _ h => h) (Or.inl ⟨by rfl, ?_⟩) hHeld ?_ ?_
   rotate_left
   ·intro w' s0
    have f : w'.cell? ⟨ga, 0, none⟩ = some (.int .i64 room) := (blk_cell (HT.out.below s0).xa 0).trans rfl
    go_simp
    with_reducible rfl
   rotate_left
   ·simp only [Act.put, List.setIfInBounds_toArray, List.set_cons_zero, List.set_cons_succ, i64_w, i32_w]
    rfl
   refine take_ (i := 3) (N := (some 54)) (v := ?_) (a' := ?_) #[true, true, true, true, false, false, false, false, false, false, false] rfl rfl (take_ofW HT_.out HW_.out (by kernel_rfl)) (fun _ _ _ h => h) (Or.inl ⟨by rfl, ?_⟩) hHeld ?_ ?_
   rotate_left
   ·intro w' s0
    have f : w'.cell? ⟨ga, 1, none⟩ = some ((.slice A0 l.length c0)) := (blk_cell (HT.out.below s0).xa 1).trans rfl
    go_simp
    with_reducible rfl
   rotate_left
   ·simp only [Act.put, List.setIfInBounds_toArray, List.set_cons_zero, List.set_cons_succ, i64_w, i32_w]
    rfl
   refine take_ (i := 4) (N := (some 55)) (v := ?_) (a' := ?_) #[true, true, true, true, true, false, false, false, false, false, false] rfl rfl (take_ofW HT_.out HW_.out (by kernel_rfl)) (fun _ _ _ h => h) (Or.inl ⟨by rfl, ?_⟩) hHeld ?_ ?_
   rotate_left
   ·intro w' s0
    refine Eq.trans (load32_run (x := x) (v := (.slice A3 x.f2.length c3)) _ (p := .tmp 5) ?ho_ ?hp_ (blk_cells (HT.out.below s0).xb)) ?hr_
    case ho_ => rfl
    case hp_ => rfl
    case hr_ => rfl
   rotate_left
   ·simp only [Act.put, List.setIfInBounds_toArray, List.set_cons_zero, List.set_cons_succ, i64_w, i32_w]
    rfl
   refine one_ (i := 5) (N := (some 56)) #[true, true, true, true, true, true, false, false, false, false, false] rfl rfl (one_of HT_.out (by kernel_rfl)) (by decide) (fun K hK => ?_)
   refine goes_ Try.func19 (by kernel_rfl) rfl #[(.agg #[.int .i64 x.f0.f0, .int .i64 x.f0.f1, .int .i64 x.f1, (.slice A3 x.f2.length c3), .int .i64 x.f3, .int .i64 x.f4.f0, .int .i64 x.f4.f1, .int .i64 x.f5.f0, .int .i64 x.f5.f1, .int .i64 x.f6.f0, .int .i64 x.f6.f1, .string x.f7, .string x.f8])] (by rfl) rfl rfl (by (try simp only [List.map_toArray, List.map_cons, List.map_nil]); first | done | rfl) ?_
   have hH := hHeld
   refine (topiaryref05_Copy.calls x.f0.f0 x.f0.f1 x.f1 A3 c3 x.f2 x.f3 x.f4.f0 x.f4.f1 x.f5.f0 x.f5.f1 x.f6.f0 x.f6.f1 x.f7 x.f8 _ _ _ _ _ _ _ _ _ _ _ _ _ _ (Kd.C_below HC3.out (HT.out.below hH).bel) HL3.out HCP.out).mono ?_
   rintro e w1 ⟨v3, rfl, hr5, hb_⟩
   obtain ⟨A5, c5, rfl⟩ := Kd.R_slice hr5
   have HV5 := Aside0.mk (Kd.V_mono (Kd.R_V (base' := 0) (Kd.R_bound hr5)) (ok' := fun k => wo.heap.size ≤ k) (fun k hk => Nat.le_trans hH.size hk.2.1))
   clear hr5
   refine ⟨_, rfl, ?_⟩
   have hS : Below wo.heap.size wo w1 := hH.trans (hb_.mono hH.size)
   clear hb_ hH hHeld
   refine hK.out _ _ (hS) (fun hHeld => ?_)
   clear hK K
   refine norm_ (a' := ?_) ?_ ?_
   rotate_left
   ·show Act.put _ (some 56) _ = _
    simp only [Act.put, List.setIfInBounds_toArray, List.set_cons_zero, List.set_cons_succ, i64_w, i32_w]
    rfl
   refine one_ (i := 6) (N := (some 57)) #[true, true, true, true, true, true, true, false, false, false, false] rfl rfl (one_of HT_.out (by kernel_rfl)) (by decide) (fun K hK => ?_)
   refine goes_ Try.func52 (by kernel_rfl) rfl #[(.slice A0 l.length c0), (.agg #[.int .i64 x.f0.f0, .int .i64 x.f0.f1, .int .i64 x.f1, (.slice A5 x.f2.length c5), .int .i64 x.f3, .int .i64 x.f4.f0, .int .i64 x.f4.f1, .int .i64 x.f5.f0, .int .i64 x.f5.f1, .int .i64 x.f6.f0, .int .i64 x.f6.f1, .string x.f7, .string x.f8])] (by rfl) rfl rfl (by (try simp only [List.map_toArray, List.map_cons, List.map_nil]); first | done | rfl) ?_
   have hH := hHeld
   refine (put_calls A0 c0 l (Kd.V_below HVL.out (HT.out.below hH).bel) x A5 c5 HV5.out HNL.out).mono ?_
   rintro e w1 ⟨v4, rfl, hn4, hb_⟩
   have hv4 := Kd.N_V (base' := 0) hn4
   obtain ⟨A6, c6, rfl⟩ := Kd.V_slice hv4
   have HV6 := Aside0.mk (Kd.V_mono hv4 (ok' := fun k => (P0 k ∧ k < w.heap.size) ∨ wo.heap.size ≤ k) (fun k hk => by rcases hk with (h | h) | h; exact .inl h; exact .inr h; exact .inr (Nat.le_trans hH.size h)))
   clear hn4 hv4 HV5
   refine ⟨_, rfl, ?_⟩
   have hS : Below wo.heap.size wo w1 := hH.trans (hb_.mono hH.size)
   clear hb_ hH hHeld
   refine hK.out _ _ (hS) (fun hHeld => ?_)
   clear hK K
   refine norm_ (a' := ?_) ?_ ?_
   rotate_left
   ·show Act.put _ (some 57) _ = _
    simp only [Act.put, List.setIfInBounds_toArray, List.set_cons_zero, List.set_cons_succ, i64_w, i32_w]
    rfl
   refine pureS (i := 7) (N := (some 58)) #[true, true, true, true, true, true, true, true, false, false, false] HT_ ?_
   refine last_ (i := 8) (N := none) #[true, true, true, true, true, true, true, true, true, false, false] rfl rfl (one_of HT_.out (by kernel_rfl)) (by decide) (fun K hK => ?_)
   have h6_ := hHeld
   refine skip_ (w1 := _) (by rfl) rfl (store52_run (room := room) (v := (.slice A6 (putC x l).length c6)) _ rfl rfl rfl rfl (HT.out.below h6_).xc rfl) ?_
   have HXs := Aside0.mk (setRow_heap _ gc _ (bA room (.slice A6 (putC x l).length c6)) 52 (0, 0) (HT.out.below h6_).xc)
   have HBs := Aside0.mk (row_below (HT.out.below h6_).bel HT.out.nc (HT.out.below h6_).xc (bA room (.slice A6 (putC x l).length c6)))
   have HV7 := Aside0.mk (Kd.V_step (w1 := World.setRow _ gc (bA room (.slice A6 (putC x l).length c6))) HV6.out (fun k hk _ => setRow_other _ gc k _ (fun e => by have h1_ := HT.out.nc; have h2_ := blk_lt HT.out.xc; rcases hk with h | h; have h3_ := h.2; omega; omega)))
   clear HV6
   have hS : Below w.heap.size w _ := HBs.out
   clear hHeld h6_
   refine hK.out _ _ ?_
   clear hK K
   refine pureS (i := 9) (N := (some 7)) #[true, true, true, true, true, true, true, true, true, true, false] HT_ ?_
   refine pureS (i := 10) (N := (some 8)) #[true, true, true, true, true, true, true, true, true, true, true] HT_ ?_
   refine done_ (done_of HT_.out (by kernel_rfl)) ?_
   try go_wp2
   refine bodyPost_ret (results_ctt rfl _ _ gc 52 (bA room (.slice A6 (putC x l).length c6)) (0, 0) _ rfl HXs.out hu52 rfl (by kernel_rfl)) rfl ?_
   exact ⟨_, _, none, 0, rfl, Kd.V_mono HV7.out (fun k hk => by rcases hk with h | h; exact .inl (.inl h.1); exact .inr (Nat.le_trans HT.out.bel.size h)), Kd.V_nil _ _ _ _ _, HBs.out⟩
 | true =>
  rw [if_pos (rfl : true = true)] at hv4
  rw [Bool.not_true]
  have HV4 := Aside0.mk hv4
  clear hv4
  clear q0 q1 q4 q5
  go_wp2_with (first | ((with_reducible refine gate_dst (N := 59) rfl ?_); refine load32_ev rfl (N := 59) rfl x (.slice A3 x.f2.length c3) (p := .tmp 5) rfl (ad := ⟨gb, 0, none⟩) rfl (blk_cells HT.out.xb) ?_) | ((with_reducible refine gate_dst (N := 60) rfl ?_); refine Kd.N_lit k32 w.heap.size 32 ?hg (N' := 60) ?hd (xs := ([x] : List S32)) (inner := chL x (.slice A3 x.f2.length c3)) (ok := (fun k => ((P0 k ∨ P1 k) ∧ k < w.heap.size ∨ w.heap.size ≤ k) ∧ k ≠ ga ∧ k ≠ gb ∧ k ≠ gc)) (okp := (fun k => ((P0 k ∨ P1 k) ∧ k < w.heap.size ∨ w.heap.size ≤ k) ∧ k ≠ ga ∧ k ≠ gb ∧ k ≠ gc)) ?hr ?hp (fun _ hk => hk) ⟨.inr HT.out.bel.size, HT.out.fresh _ (Nat.le_refl _)⟩ HT.out.bel HT.out.bel.size (by simp) ?_; (case hd => rfl); (case hg => rfl); (case hr => first | (go_simp; done) | (go_simp; rfl)); (case hp => exact Reps.front (k32_mkF _ _ x HL3.out (Kd.V_F (Kd.V_mono (Kd.V_below HXV.out HT.out.bel) (fun k hk => ⟨.inl ⟨.inr hk.1, hk.2⟩, HT.out.old k hk.2⟩)))) rfl (Reps.none _ _) rfl); intro v9 w2 hN hb hg_ hnew_; have HN := Aside0.mk hN; have n_ := Aside0.mk (HT.out.grown hg_ (fun h => by cases h) (fun h => by cases h) (fun h => by cases h)); clear HT; have HT := n_; clear n_ hN hb hg_ hnew_; have q1 : w2.cell? ⟨ga, 1, none⟩ = some (.slice A0 l.length c0) := (blk_cell HT.out.xa 1).trans rfl) | ((with_reducible refine gate_dst (N := 64) rfl ?_); refine load32_ev rfl (N := 64) rfl x (.slice A3 x.f2.length c3) (p := .tmp 5) rfl (ad := ⟨gb, 0, none⟩) rfl (blk_cells HT.out.xb) ?_) | (go_at_call 53; refine (topiaryref09_tick.calls 301 A1 c1 known x.f0.f0 x.f0.f1 x.f1 A3 c3 x.f2 x.f3 x.f4.f0 x.f4.f1 x.f5.f0 x.f5.f1 x.f6.f0 x.f6.f1 x.f7 x.f8 _ _ (Kd.C_below HK.out HT.out.bel) HKC.out (Kd.C_below HC3.out HT.out.bel) HL3.out (ref_tick_is known x 301 (by decide))).mono ?_; rintro e w2 ⟨vt, rfl, ht_, hb_⟩; clear q1; obtain ⟨Ac, cc, rfl⟩ := Kd.R_slice ht_; have HC := Aside0.mk (Kd.V_mono (Kd.R_V (base' := 0) (Kd.R_bound ht_)) (ok' := fun k => True ∧ some k ≠ v9.ownBlock) (fun k hk => ⟨trivial, fun e => by have h1_ := Kd.N_lt HN.out k e.symm; have h2_ := hk.2.1; omega⟩)); clear ht_; have n_ := Aside0.mk (Kd.N_below HN.out hb_); clear HN; have HN := n_; clear n_; have n_ := Aside0.mk (HT.out.below hb_); clear HT; have HT := n_; clear n_ hb_))
  obtain ⟨wl, hwl⟩ : ∃ wl, wl = w2 := ⟨_, rfl⟩
  go_loopw [9, 10, 11, 12] (fun v9' v10 v11 v12 wq => ∃ (now : List Int) (out left : List S32) (vo : Value) (Al : Option Addr) (cl : Nat) (Ac : Option Addr) (cc : Nat), vo = v9' ∧ v10 = .slice Al left.length cl ∧ v11 = .slice Ac now.length cc ∧ Aside0 (TB w wq ga gb gc (bA room (.slice A0 l.length c0)) (chA x (.slice A3 x.f2.length c3)) (bA 0 (.slice none 0 0))) ∧ Aside0 (Kd.N k32 32 wq w.heap.size (fun k => ((P0 k ∨ P1 k) ∧ k < w.heap.size ∨ w.heap.size ≤ k) ∧ k ≠ ga ∧ k ≠ gb ∧ k ≠ gc) vo out) ∧ Aside0 (Kd.V k32 32 wq 0 (fun k => (fun k => ((P0 k ∨ P1 k) ∧ k < w.heap.size ∨ w.heap.size ≤ k) ∧ k ≠ ga ∧ k ≠ gb ∧ k ≠ gc) k ∧ some k ≠ vo.ownBlock) (.slice Al left.length cl) left) ∧ Aside0 (Kd.V (Kd.int .i64) 3 wq 0 (fun k => True ∧ some k ≠ vo.ownBlock) (.slice Ac now.length cc) now) ∧ Aside0 (relF left.length now out left = relF l.length (tickC known x.f0.f1).1 [x] l) ∧ Aside0 (Good left) ∧ Aside0 (out.length + left.length < 5000)) (fun _ v10 _ _ _ => lenV v10)
  case atStart => exact ⟨_, [x], l, _, A0, c0, Ac, cc, rfl, rfl, rfl, HT, HN, ⟨Kd.V_mono (Kd.V_below HVL.out HT.out.bel) (fun k hk => ⟨⟨.inl ⟨.inl hk.1, hk.2⟩, HT.out.old k hk.2⟩, fun e => by have h1_ := Kd.N_base HN.out k e.symm; have h2_ := hk.2; omega⟩)⟩, HC, ⟨rfl⟩, HGD, ⟨by have h1_ := HNL.out; rw [List.length_singleton]; omega⟩⟩
  case round =>
   clear HT HN HC
   obtain ⟨now, out, left, vo, Al, cl, Ac, cc, rfl, rfl, rfl, HT, HN, HLV, HC, HF, HGL, HLE⟩ := hrel
   obtain ⟨wo, rfl⟩ : ∃ wo, wo = wr := ⟨wr, rfl⟩
   have HNX := Aside0.mk (next_is HGL.out now (by have h_ := HLE.out; omega) 6000 (by have h_ := HLE.out; omega))
   obtain ⟨nx, hnx⟩ : ∃ nx, nextI now left 0 = nx := ⟨_, rfl⟩
   rw [hnx] at HNX
   by_cases h0 : 0 ≤ nx
   case neg =>
    have e8 : decide (0 ≤ nx) = false := decide_eq_false h0
    have hf := HF.out
    rw [relF_stop (by rw [hnx]; exact h0)] at hf
    have HF2 := Aside0.mk hf
    clear h0 hf hnx HF
    go_wp2_with (first | (go_at_call 54; refine (topiaryref09_next.calls 6000 Ac cc now Al cl left _ _ (Kd.V_reads' HC.out).2.2 (Kd.V_reads' HC.out).2.1 (Kd.V_reads' HLV.out).2.2 (Kd.V_reads' HLV.out).2.1 HNX.out).mono ?_; rintro e w2 ⟨rfl, hb_⟩; have n_ := Aside0.mk (Kd.N_below HN.out hb_); clear HN; have HN := n_; clear n_; have n_ := Aside0.mk (Kd.V_below HLV.out hb_); clear HLV; have HLV := n_; clear n_; have n_ := Aside0.mk (Kd.V_below HC.out hb_); clear HC; have HC := n_; clear n_; have n_ := Aside0.mk (HT.out.below hb_); clear HT; have HT := n_; clear n_ hb_; have q0 : w2.cell? ⟨ga, 0, none⟩ = some (.int .i64 room) := (blk_cell HT.out.xa 0).trans rfl) | ((with_reducible refine gate_store (t := 52) (p := 6) (v := .tmp 92) rfl ?_); refine store52_ev rfl rfl room (.slice Al left.length cl) (p := .tmp 6) (q := .tmp 92) rfl (g := gc) rfl rfl rfl HT.out.xc rfl ?_; intro ws hb_ hg_; have HXs := Aside0.mk hb_; have HGs := Aside0.mk hg_; have HBs := Aside0.mk (HT.out.bel.grown hg_ HT.out.bel.size (fun k hk => by injection hk with hk; rw [← hk]; exact HT.out.nc)); clear hb_ hg_))
    refine bodyPost_ret (results_ctt rfl _ _ gc 52 (bA room (.slice Al left.length cl)) (0, 0) _ rfl HXs.out hu52 rfl (by kernel_rfl)) rfl ?_
    rw [HV4.out, ← HF2.out]
    have HVN := Kd.N_V (base' := 0) HN.out
    obtain ⟨A7, c7, rfl⟩ := Kd.V_slice HVN
    exact ⟨Al, cl, A7, c7, rfl, Kd.V_mono (Kd.V_grown HLV.out HGs.out (fun k hk e => by injection e with e; exact hk.1.2.2.2 e)) (fun k hk => by rcases hk.1.1 with h | h; exact .inl h.1; exact .inr h), Kd.V_mono (Kd.V_grown HVN HGs.out (fun k hk e => by injection e with e; exact hk.2.2.2 e)) (fun k hk => by rcases hk.1 with h | h; exact .inl h.1; exact .inr h), HBs.out⟩
   have e8 : decide (0 ≤ nx) = true := decide_eq_true h0
   obtain ⟨j, hj, he⟩ := next_lt now left 0 (by rw [hnx]; exact h0)
   rw [Nat.zero_add, hnx] at he
   subst he
   have HF2 := Aside0.mk ((relF_go (out := out) hj hnx).symm.trans HF.out)
   have HJ := Aside0.mk hj
   have HLN : Aside0 (left.length < 90000) := ⟨by have h_ := HLE.out; omega⟩
   have HON : Aside0 (out.length < 5000) := ⟨by have h_ := HLE.out; omega⟩
   have b1 : (0 ≤ (j : Int)) = True := eq_true (by omega)
   have b2 : ((j : Int) < (left.length : Int)) = True := eq_true (by omega)
   have b3 : (j < left.length) = True := eq_true hj
   clear h0 hnx HF
   go_upto_region 16 with (first | (go_at_call 54; refine (topiaryref09_next.calls 6000 Ac cc now Al cl left _ _ (Kd.V_reads' HC.out).2.2 (Kd.V_reads' HC.out).2.1 (Kd.V_reads' HLV.out).2.2 (Kd.V_reads' HLV.out).2.1 HNX.out).mono ?_; rintro e w2 ⟨rfl, hb_⟩; have n_ := Aside0.mk (Kd.N_below HN.out hb_); clear HN; have HN := n_; clear n_; have n_ := Aside0.mk (Kd.V_below HLV.out hb_); clear HLV; have HLV := n_; clear n_; have n_ := Aside0.mk (Kd.V_below HC.out hb_); clear HC; have HC := n_; clear n_; have n_ := Aside0.mk (HT.out.below hb_); clear HT; have HT := n_; clear n_ hb_))
   obtain ⟨ad, A4, c4, rfl, hcc, hl4, hV4⟩ := elemV HLV.out hj
   generalize hy : rd_T32 left (j : Int) = y at *
   have HYC := Aside0.mk hcc
   have HYV := Aside0.mk hV4
   have HYE := Aside0.mk hy
   clear hcc hl4 hV4 hj hy
   go_wp2_with (first | ((with_reducible refine gate_dst (N := 77) rfl ?_); refine load32_ev rfl (N := 77) rfl y (.slice A4 y.f2.length c4) (p := .tmp 76) rfl rfl (fun j u hj => HYC.out _ (Below.refl _ _) j u hj) ?_) | ((with_reducible refine gate_builtin (b := .append) (xs := #[.tmp 73, .tmp 78]) rfl ?_); at_builtin; refine app32 (w0 := w) w.heap.size rfl (.tmp 73) (.tmp 78) rfl vo out y A4 c4 (fun k => ((P0 k ∨ P1 k) ∧ k < w.heap.size ∨ w.heap.size ≤ k) ∧ k ≠ ga ∧ k ≠ gb ∧ k ≠ gc) rfl rfl (Kd.V_mono HYV.out (fun k hk => hk.1)) (fun k hk => ⟨.inr (Nat.le_trans HT.out.bel.size hk), HT.out.fresh k hk⟩) HN.out HT.out.bel HT.out.bel.size (by have h_ := HON.out; omega) ?_; intro v9 w2 hN hb hg_ hat_; have n_ := Aside0.mk (HT.out.grown hg_ (Kd.N_away HN.out (fun k hk => hk.2.1)) (Kd.N_away HN.out (fun k hk => hk.2.2.1)) (Kd.N_away HN.out (fun k hk => hk.2.2.2))); clear HT; have HT := n_; clear n_; have n_ := Aside0.mk (Kd.V_after HLV.out hg_ hat_); clear HLV; have HLV := n_; clear n_; have n_ := Aside0.mk (Kd.V_after HC.out hg_ hat_); clear HC; have HC := n_; clear n_; obtain ⟨ad2, A5, c5, he_, hcc2, hl5, hV5⟩ := elemV HLV.out HJ.out; injection he_ with he_; subst he_; rw [HYE.out] at hcc2 hl5 hV5; have HYC2 := Aside0.mk hcc2; have HYV2 := Aside0.mk hV5; clear hcc2 hl5 hV5; clear HN; have HN := Aside0.mk hN; clear hN hb hg_ hat_) | ((with_reducible refine gate_dst (N := 84) rfl ?_); refine load32_ev rfl (N := 84) rfl y (.slice A5 y.f2.length c5) (p := .tmp 83) rfl rfl (fun j u hj => HYC2.out _ (Below.refl _ _) j u hj) ?_) | (go_at_call 53; refine (topiaryref09_tick.calls 301 Ac cc now y.f0.f0 y.f0.f1 y.f1 A5 c5 y.f2 y.f3 y.f4.f0 y.f4.f1 y.f5.f0 y.f5.f1 y.f6.f0 y.f6.f1 y.f7 y.f8 _ _ (Kd.V_reads' HC.out).2.2 (Kd.V_reads' HC.out).2.1 (Kd.V_reads' HYV2.out).2.2 (Kd.V_reads' HYV2.out).2.1 (ref_tick_is now y 301 (by decide))).mono ?_; rintro e w2 ⟨vt, rfl, ht_, hb_⟩; have HNB := Aside0.mk HN.out; have n_ := Aside0.mk (Kd.N_below HN.out hb_); clear HN; have HN := n_; clear n_; have n_ := Aside0.mk (Kd.V_below HLV.out hb_); clear HLV; have HLV := n_; clear n_; have n_ := Aside0.mk (Kd.V_below HC.out hb_); clear HC; have HC := n_; clear n_; clear HC; obtain ⟨Ac, cc, rfl⟩ := Kd.R_slice ht_; have HC := Aside0.mk (Kd.V_mono (Kd.R_V (base' := 0) (Kd.R_bound ht_)) (ok' := fun k => True ∧ some k ≠ v9.ownBlock) (fun k hk => ⟨trivial, fun e => by have h1_ := Kd.N_lt (HNB.out) k e.symm; have h2_ := hk.2.1; omega⟩)); clear ht_; have n_ := Aside0.mk (HT.out.below hb_); clear HT; have HT := n_; clear n_ hb_) | (go_at_call 55; refine (topiaryref09_without.calls _ _ cl left (j : Int) _ _ HLV.out (without_is left j HJ.out HLN.out)).mono ?_; rintro e w2 ⟨v8, rfl, hn8, hb_⟩; have hv8 := Kd.N_V (base' := 0) hn8; obtain ⟨A8, c8, rfl⟩ := Kd.V_slice hv8; have HL8 := Aside0.mk (Kd.V_mono hv8 (ok' := fun k => (fun k => ((P0 k ∨ P1 k) ∧ k < w.heap.size ∨ w.heap.size ≤ k) ∧ k ≠ ga ∧ k ≠ gb ∧ k ≠ gc) k ∧ some k ≠ v9.ownBlock) (fun k hk => by rcases hk with h | h; exact h; exact ⟨⟨.inr (Nat.le_trans HT.out.bel.size h), HT.out.fresh k h⟩, fun e => by have h1_ := Kd.N_lt HN.out k e.symm; omega⟩)); clear hn8 hv8; have n_ := Aside0.mk (Kd.N_below HN.out hb_); clear HN; have HN := n_; clear n_; have n_ := Aside0.mk (Kd.V_below HLV.out hb_); clear HLV; have HLV := n_; clear n_; have n_ := Aside0.mk (Kd.V_below HC.out hb_); clear HC; have HC := n_; clear n_; have n_ := Aside0.mk (HT.out.below hb_); clear HT; have HT := n_; clear n_ hb_))
   exact ⟨⟨_, out ++ [y], left.eraseIdx j, v9, A8, c8, Ac, cc, rfl, rfl, rfl, HT, HN, HL8, HC, HF2, ⟨HGL.out.erase j⟩, ⟨by have h_ := HLE.out; have h2_ := HJ.out; rw [List.length_append, List.length_singleton, List.length_eraseIdx_of_lt HJ.out]; omega⟩⟩, by show (left.eraseIdx j).length < left.length; rw [List.length_eraseIdx_of_lt HJ.out]; have h2_ := HJ.out; omega⟩
def sml.T6 : Bool × List (List Nat × List Nat) := (true, [([], []), ([], []), ([0, 1], [0, 1]), ([2], [2]), ([], []), ([], []), ([4, 5], [4, 5]), ([6], [6]), ([3, 7], [3, 7]), ([8], [8])])
def sml.B6 : List Nat := [0, 0, 3, 7, 0, 0, 48, 112, 255, 511]
theorem sml.tab6 : rtab .any (opsOf Try.f15 6) = sml.T6 := by kernel_rfl
theorem sml.bits6 : waitsOk sml.T6.2 sml.B6 = true := by kernel_rfl
theorem drawn_below {w w1 : World} {nd : Nat} (h : w1 = w.drewN nd) : Below w.heap.size w w1 := by rw [h]; exact pw_below_drewN (Below.refl _ _) nd
/-- An element of a list. -/
theorem elemS {w : World} {A1 : Option Addr} {l : List S32} (hl : Kd.C k32 w A1 l.length l) {i : Nat} (hi : i < l.length) :
  ∃ ad A3 c3, A1 = some ad ∧ (∀ W, Below w.heap.size w W → ∀ j u, (chL (rd_T32 l (i : Int)) (.slice A3 (rd_T32 l (i : Int)).f2.length c3))[j]? = some u → W.cell? ((ad.add (i * 13)).add j) = some u) ∧ (rd_T32 l (i : Int)).f2.length ≤ c3 ∧ (Kd.int .i64).C w A3 (rd_T32 l (i : Int)).f2.length (rd_T32 l (i : Int)).f2 := by
 obtain ⟨ad, c, e, hcl, hK, hcc⟩ := Kd.C_get hl z32 (i : Int) (by omega) (by omega)
 obtain ⟨A3, c3, rfl, l3, g3⟩ := k32_open hK
 rw [Int.toNat_natCast] at hcc
 refine ⟨ad, A3, c3, e, fun W hb j u hj => ?_, l3, g3⟩
 rw [add_add]
 have h := hcc j u hj
 exact (hb.cell (World.block_lt_of_cell? w _ h)).trans h
set_option maxHeartbeats 8000000 in
set_option maxRecDepth 100000 in
theorem same_self {w : World} (x : S32) (A3 : Option Addr) (c3 : Nat) (B3 : Option Addr) (d3 : Nat) (hx : Kd.C (Kd.int .i64) w A3 x.f2.length x.f2) (hx3 : x.f2.length ≤ c3) (hy : Kd.C (Kd.int .i64) w B3 x.f2.length x.f2) (hy3 : x.f2.length ≤ d3) (h64 : x.f2.length ≤ 64) :
  Calls Try.prog 45 #[(.agg #[.int .i64 x.f0.f0, .int .i64 x.f0.f1, .int .i64 x.f1, (.slice A3 x.f2.length c3), .int .i64 x.f3, .int .i64 x.f4.f0, .int .i64 x.f4.f1, .int .i64 x.f5.f0, .int .i64 x.f5.f1, .int .i64 x.f6.f0, .int .i64 x.f6.f1, .string x.f7, .string x.f8]), (.agg #[.int .i64 x.f0.f0, .int .i64 x.f0.f1, .int .i64 x.f1, (.slice B3 x.f2.length d3), .int .i64 x.f3, .int .i64 x.f4.f0, .int .i64 x.f4.f1, .int .i64 x.f5.f0, .int .i64 x.f5.f1, .int .i64 x.f6.f0, .int .i64 x.f6.f1, .string x.f7, .string x.f8])] w fun e w' => e = .returned (.bool true) ∧ Below w.heap.size w w' := by
 have hu32 := Try.underlying32
 have hu30 := Try.underlying30
 have HC3 := Aside0.mk hx
 have HL3 := Aside0.mk hx3
 have HD3 := Aside0.mk hy
 have HM3 := Aside0.mk hy3
 have HS2 : Aside0 (topiaryref02_Same.f 100 x.f2 x.f2 = some true) := ⟨by unfold topiaryref02_Same.f; rw [if_pos rfl]; exact same02_self x.f2 x.f2.length 0 100 (by omega) (by omega) (by omega)⟩
 have HB := Aside0.mk (Below.refl w.heap.size w)
 clear hx hx3 hy hy3 h64
 go_enter Try.func45, Try.ntmps45
 go_wp2_with (first | ((with_reducible refine gate_dst (N := 2) rfl ?_); refine box_event ?hg (N := 2) ?hd (cs := #[.int .i64 x.f0.f0, .int .i64 x.f0.f1, .int .i64 x.f1, (.slice A3 x.f2.length c3), .int .i64 x.f3, .int .i64 x.f4.f0, .int .i64 x.f4.f1, .int .i64 x.f5.f0, .int .i64 x.f5.f1, .int .i64 x.f6.f0, .int .i64 x.f6.f1, .string x.f7, .string x.f8]) (t := 32) ?hr ?_; (case hd => rfl); (case hg => rfl); (case hr => first | (go_simp; done) | (go_simp; rfl)); intro ga hr_ w_ga hbox hb; have HXA := Aside0.mk hbox; obtain ⟨ha0, ha1, ha2, ha3, ha4, ha5, ha6, ha7, ha8, ha9, ha10, ha11, ha12⟩ := cells13 hbox; have n0_ := Aside0.mk (HB.out.trans (hb.mono HB.out.size)); clear HB; have HB := n0_; clear n0_ hb hr_) | ((with_reducible refine gate_dst (N := 3) rfl ?_); refine box_event ?hg (N := 3) ?hd (cs := #[.int .i64 x.f0.f0, .int .i64 x.f0.f1, .int .i64 x.f1, (.slice B3 x.f2.length d3), .int .i64 x.f3, .int .i64 x.f4.f0, .int .i64 x.f4.f1, .int .i64 x.f5.f0, .int .i64 x.f5.f1, .int .i64 x.f6.f0, .int .i64 x.f6.f1, .string x.f7, .string x.f8]) (t := 32) ?hr ?_; (case hd => rfl); (case hg => rfl); (case hr => first | (go_simp; done) | (go_simp; rfl)); intro gb hr_ w_gb hbox hb; have hA := Aside0.mk (blk_below HXA.out hb); clear HXA ha0 ha1 ha2 ha3 ha4 ha5 ha6 ha7 ha8 ha9 ha10 ha11 ha12; obtain ⟨ha0, ha1, ha2, ha3, ha4, ha5, ha6, ha7, ha8, ha9, ha10, ha11, ha12⟩ := cells13 hA.out; have HXA := hA; clear hA; have HXB := Aside0.mk hbox; obtain ⟨hb0, hb1, hb2, hb3, hb4, hb5, hb6, hb7, hb8, hb9, hb10, hb11, hb12⟩ := cells13 hbox; have n0_ := Aside0.mk (HB.out.trans (hb.mono HB.out.size)); clear HB; have HB := n0_; clear n0_ hb hr_) | (go_at_call 24; refine (topiaryref02_Same.calls 100 A3 c3 x.f2 B3 d3 x.f2 true _ (Kd.C_below HC3.out HB.out) HL3.out (Kd.C_below HD3.out HB.out) HM3.out HS2.out).mono ?_; clear ha0 ha1 ha2 ha3 ha4 ha5 ha6 ha7 ha8 ha9 ha10 ha11 ha12 hb0 hb1 hb2 hb3 hb4 hb5 hb6 hb7 hb8 hb9 hb10 hb11 hb12; rintro e w1 ⟨rfl, ⟨nd, hnd⟩⟩; have hb_ := drawn_below hnd; clear hnd; obtain ⟨ha0, ha1, ha2, ha3, ha4, ha5, ha6, ha7, ha8, ha9, ha10, ha11, ha12⟩ := cells13 (blk_below HXA.out hb_); obtain ⟨hb0, hb1, hb2, hb3, hb4, hb5, hb6, hb7, hb8, hb9, hb10, hb11, hb12⟩ := cells13 (blk_below HXB.out hb_); have n0_ := Aside0.mk (HB.out.trans (hb_.mono HB.out.size)); clear HB; have HB := n0_; clear n0_ hb_))
 go_ret
 exact ⟨by simp, HB.out⟩
set_option maxHeartbeats 8000000 in
set_option maxRecDepth 100000 in
theorem sameAll_self {w : World} (A0 : Option Addr) (c0 : Nat) (A1 : Option Addr) (c1 : Nat) (l : List S32) (h0 : Kd.C k32 w A0 l.length l) (hc0 : l.length ≤ c0) (h1 : Kd.C k32 w A1 l.length l) (hc1 : l.length ≤ c1) (hx : ∀ x ∈ l, x.f2.length ≤ 64) (hl : l.length < 90000) :
  Calls Try.prog 15 #[.slice A0 l.length c0, .slice A1 l.length c1] w fun e w' => e = .returned (.bool true) ∧ Below w.heap.size w w' := by
 have H0 := Aside0.mk h0
 have H1 := Aside0.mk h1
 have H64 := Aside0.mk hx
 have HL := Aside0.mk hl
 have e0 : ((l.length : Int) != (l.length : Int)) = false := by rw [bne_eq_false_iff_eq]
 clear h0 h1 hc0 hc1 hx hl
 go_enter Try.func15, Try.ntmps15
 go_wp2_with (fail)
 go_loopw [5] (fun v5 wq => ∃ i : Nat, v5 = .int .i64 (i : Int) ∧ Aside0 (i ≤ l.length) ∧ Aside0 (Below w.heap.size w wq)) (fun v5 _ => l.length - (intOf v5).toNat)
 case atStart => exact ⟨0, rfl, ⟨Nat.zero_le _⟩, ⟨Below.refl _ _⟩⟩
 case round =>
  obtain ⟨i, rfl, HI, HBq⟩ := hrel
  by_cases hi : i < l.length
  case neg =>
   have b3 : decide (i < l.length) = false := decide_eq_false hi
   go_wp2_with (fail)
   go_ret
   exact ⟨rfl, HBq.out⟩
  obtain ⟨ad, A3, c3, rfl, hcc, hl3, hC3⟩ := elemS H0.out hi
  obtain ⟨ad', B3, d3, rfl, hcc', hl3', hC3'⟩ := elemS H1.out hi
  have hmem : rd_T32 l (i : Int) ∈ l := List.mem_of_getElem? (rd32_at hi)
  have HY := Aside0.mk (H64.out _ hmem)
  clear hmem
  generalize rd_T32 l (i : Int) = y at *
  have HCA := Aside0.mk hcc
  have HCB := Aside0.mk hcc'
  have HC3 := Aside0.mk hC3
  have HD3 := Aside0.mk hC3'
  have HL3 := Aside0.mk hl3
  have HM3 := Aside0.mk hl3'
  have HI' := Aside0.mk hi
  have b1 : (0 ≤ (i : Int)) = True := eq_true (by omega)
  have b2 : ((i : Int) < (l.length : Int)) = True := eq_true (by omega)
  have b3 : (i < l.length) = True := eq_true hi
  have b4 : decide (i < l.length) = true := decide_eq_true hi
  have hiw : wrap64 ((i : Int) + 1) = ((i + 1 : Nat) : Int) := by have h1_ := HL.out; exact w1s (by omega)
  have HIW := Aside0.mk hiw
  clear hcc hcc' hC3 hC3' hl3 hl3' hi hiw
  go_wp2_with (fail)
  refine start_ (n := 10) (S := (fun w' => Below w.heap.size w w')) (ds := []) #[false, false, false, false, false, false, false, false, false, false] (by kernel_rfl) rfl rfl (below_drew HBq.out) (fun hHeld => ?_)
  refine with_tabW sml.tab6 sml.bits6 (fun HT_ HW_ => ?_)
  refine pureS (i := 0) (N := (some 17)) #[true, false, false, false, false, false, false, false, false, false] HT_ ?_
  refine pureS (i := 1) (N := (some 18)) #[true, true, false, false, false, false, false, false, false, false] HT_ ?_
  refine pureS (i := 2) (N := (some 19)) #[true, true, true, false, false, false, false, false, false, false] HT_ ?_
  refine pureS (i := 4) (N := (some 21)) #[true, true, true, false, true, false, false, false, false, false] HT_ ?_
  refine pureS (i := 5) (N := (some 22)) #[true, true, true, false, true, true, false, false, false, false] HT_ ?_
  refine pureS (i := 6) (N := (some 23)) #[true, true, true, false, true, true, true, false, false, false] HT_ ?_
  refine take_ (i := 3) (N := (some 20)) (v := ?_) (a' := ?_) #[true, true, true, true, true, true, true, false, false, false] rfl rfl (take_ofW HT_.out HW_.out (by kernel_rfl)) (fun _ _ _ h => h) (Or.inl ⟨by rfl, ?_⟩) hHeld ?_ ?_
  rotate_left
  ·rintro w' s0
   refine Eq.trans (load32_run (x := y) (v := (.slice A3 y.f2.length c3)) _ (p := .tmp 19) ?ho_ ?hp_ (HCA.out w' s0)) ?hr_
   case ho_ => rfl
   case hp_ => rfl
   case hr_ => rfl
  rotate_left
  ·simp only [Act.put, List.setIfInBounds_toArray, List.set_cons_zero, List.set_cons_succ, i64_w, i32_w]
   rfl
  refine take_ (i := 7) (N := (some 24)) (v := ?_) (a' := ?_) #[true, true, true, true, true, true, true, true, false, false] rfl rfl (take_ofW HT_.out HW_.out (by kernel_rfl)) (fun _ _ _ h => h) (Or.inl ⟨by rfl, ?_⟩) hHeld ?_ ?_
  rotate_left
  ·rintro w' s0
   refine Eq.trans (load32_run (x := y) (v := (.slice B3 y.f2.length d3)) _ (p := .tmp 23) ?ho_ ?hp_ (HCB.out w' s0)) ?hr_
   case ho_ => rfl
   case hp_ => rfl
   case hr_ => rfl
  rotate_left
  ·simp only [Act.put, List.setIfInBounds_toArray, List.set_cons_zero, List.set_cons_succ, i64_w, i32_w]
   rfl
  refine one_ (i := 8) (N := (some 25)) #[true, true, true, true, true, true, true, true, true, false] rfl rfl (one_of HT_.out (by kernel_rfl)) (by decide) (fun K hK => ?_)
  refine goes_ Try.func45 (by kernel_rfl) rfl #[(.agg #[.int .i64 y.f0.f0, .int .i64 y.f0.f1, .int .i64 y.f1, (.slice A3 y.f2.length c3), .int .i64 y.f3, .int .i64 y.f4.f0, .int .i64 y.f4.f1, .int .i64 y.f5.f0, .int .i64 y.f5.f1, .int .i64 y.f6.f0, .int .i64 y.f6.f1, .string y.f7, .string y.f8]), (.agg #[.int .i64 y.f0.f0, .int .i64 y.f0.f1, .int .i64 y.f1, (.slice B3 y.f2.length d3), .int .i64 y.f3, .int .i64 y.f4.f0, .int .i64 y.f4.f1, .int .i64 y.f5.f0, .int .i64 y.f5.f1, .int .i64 y.f6.f0, .int .i64 y.f6.f1, .string y.f7, .string y.f8])] (by rfl) rfl rfl (by (try simp only [List.map_toArray, List.map_cons, List.map_nil]); first | done | rfl) ?_
  refine (same_self y A3 c3 B3 d3 (Kd.C_below HC3.out hHeld) HL3.out (Kd.C_below HD3.out hHeld) HM3.out HY.out).mono ?_
  rintro e w1 ⟨rfl, hb1⟩
  refine ⟨_, rfl, ?_⟩
  refine hK.out _ _ ((hHeld.trans (hb1.mono hHeld.size))) (fun hHeld => ?_)
  clear hK K
  refine norm_ (a' := ?_) ?_ ?_
  rotate_left
  ·show Act.put _ (some 25) _ = _
   simp only [Act.put, List.setIfInBounds_toArray, List.set_cons_zero, List.set_cons_succ, i64_w, i32_w]
   rfl
  refine pureS (i := 9) (N := (some 26)) #[true, true, true, true, true, true, true, true, true, true] HT_ ?_
  refine done_ (done_of HT_.out (by kernel_rfl)) ?_
  go_wp2_with (fail)
  rw [HIW.out]
  exact ⟨⟨i + 1, rfl, ⟨HI'.out⟩, ⟨hHeld⟩⟩, dec_lt HI'.out⟩
def tld.T1 : Bool × List (List Nat × List Nat) := (true, [([], []), ([0], [0]), ([], []), ([2], [2]), ([3], [3]), ([1, 4], [1, 4]), ([5, 1], [5]), ([6], [6]), ([7, 6, 6], [6, 7]), ([6], [6]), ([9, 6], [6, 9]), ([8, 10, 6], [6, 8, 10]), ([6, 11], [6, 11]), ([12, 8], [12]), ([13], [13]), ([14, 13, 13], [13, 14]), ([13], [13]), ([16, 13], [13, 16]), ([15, 17, 15, 13], [13, 15, 17]), ([13, 18], [13, 18]), ([19, 18, 0, 1, 2, 3, 4, 5, 6, 7, 8, 9, 10, 11, 12, 13, 14, 15, 16, 17, 18, 19], [19])])
def tld.B1 : List Nat := [0, 1, 0, 4, 12, 31, 63, 127, 255, 127, 639, 2047, 4095, 8191, 16383, 32767, 16383, 81919, 262143, 524287, 1048575]
theorem tld.tab1 : rtab .any (opsOf Try.f30 1) = tld.T1 := by kernel_rfl
theorem tld.bits1 : waitsOk tld.T1.2 tld.B1 = true := by kernel_rfl
def stb.T9 : Bool × List (List Nat × List Nat) := (true, [([], []), ([0], [0]), ([], []), ([1, 2], [1, 2]), ([], []), ([4], [4]), ([5], [5]), ([], []), ([7], [7]), ([6, 8], [6, 8]), ([3, 0, 1, 2, 3], [3]), ([9, 10, 0, 1, 2, 3, 4, 5, 6, 7, 8, 9, 10], [9])])
def stb.B9 : List Nat := [0, 1, 0, 7, 0, 16, 48, 0, 128, 496, 15, 2047]
theorem stb.tab9 : rtab .any (opsOf Try.f25 9) = stb.T9 := by kernel_rfl
theorem stb.bits9 : waitsOk stb.T9.2 stb.B9 = true := by kernel_rfl
theorem Below.of_eq' {w w' : World} (h : w' = w) : Below w.heap.size w w' := by rw [h]; exact Below.refl _ _
set_option maxHeartbeats 8000000 in
set_option maxRecDepth 100000 in
theorem told_calls {w : World} {base b0 : Nat} {P Q : Nat → Prop} {g : Nat} {room : Int} {l : List S32} (hB : BufI w base P g room l) (hn : l.length < 1000) (h64 : ∀ y ∈ l, y.f2.length ≤ 64) (A0 : Option Addr) (c0 : Nat) (hv : Kd.V k32 32 w b0 Q (.slice A0 l.length c0) l) :
  Calls Try.prog 30 #[.pointer (some ⟨g, 0, none⟩), .agg #[.int .i64 room, .slice A0 l.length c0]] w fun e w' => e = .returned (.bool true) ∧ Below w.heap.size w w' := by
 have HBU := Aside0.mk hB
 have HN := Aside0.mk hn
 have HN9 : Aside0 (l.length < 90000) := ⟨by omega⟩
 have H64 := Aside0.mk h64
 have HC := Aside0.mk (Kd.V_reads' hv).2.2
 have HL := Aside0.mk (Kd.V_reads' hv).2.1
 clear hB hn h64 hv
 go_enter Try.func30, Try.ntmps30
 go_wp2_with (first | ((with_reducible refine gate_dst (N := 3) rfl ?_); refine box_event ?hg (N := 3) ?hd (cs := #[.int .i64 room, (.slice A0 l.length c0)]) (t := 52) ?hr ?_; (case hd => rfl); (case hg => rfl); (case hr => first | (go_simp; done) | (go_simp; rfl)); intro gb hr_ w2 hbox hb; have HX := Aside0.mk hbox; have HB := Aside0.mk hb; have HBU2 := Aside0.mk (HBU.out.below hb); clear hbox hb hr_))
 obtain ⟨wo, rfl⟩ : ∃ wo, wo = w2 := ⟨w2, rfl⟩
 refine start_ (n := 21) (S := (fun w' => Below wo.heap.size wo w')) (ds := []) #[false, false, false, false, false, false, false, false, false, false, false, false, false, false, false, false, false, false, false, false, false] (by kernel_rfl) rfl rfl (below_drew (Below.refl _ _)) (fun hHeld => ?_)
 refine with_tabW tld.tab1 tld.bits1 (fun HT_ HW_ => ?_)
 refine pureS (i := 0) (N := (some 5)) #[true, false, false, false, false, false, false, false, false, false, false, false, false, false, false, false, false, false, false, false, false] HT_ ?_
 refine pureS (i := 2) (N := (some 7)) #[true, false, true, false, false, false, false, false, false, false, false, false, false, false, false, false, false, false, false, false, false] HT_ ?_
 refine take_ (i := 3) (N := (some 8)) (v := ?_) (a' := ?_) #[true, false, true, true, false, false, false, false, false, false, false, false, false, false, false, false, false, false, false, false, false] rfl rfl (take_ofW HT_.out HW_.out (by kernel_rfl)) (fun _ _ _ h => h) (Or.inl ⟨by rfl, ?_⟩) hHeld ?_ ?_
 rotate_left
 ·intro w' s0
  have f : w'.cell? ⟨gb, 1, none⟩ = some ((.slice A0 l.length c0)) := (blk_cell (blk_below HX.out s0) 1).trans rfl
  go_simp
  with_reducible rfl
 rotate_left
 ·simp only [Act.put, List.setIfInBounds_toArray, List.set_cons_zero, List.set_cons_succ, i64_w, i32_w]
  rfl
 refine pureS (i := 4) (N := (some 9)) #[true, false, true, true, true, false, false, false, false, false, false, false, false, false, false, false, false, false, false, false, false] HT_ ?_
 refine one_ (i := 1) (N := (some 6)) #[true, true, true, true, true, false, false, false, false, false, false, false, false, false, false, false, false, false, false, false, false] rfl rfl (one_of HT_.out (by kernel_rfl)) (by decide) (fun K hK => ?_)
 refine goes_ Try.func16 (by kernel_rfl) rfl #[.pointer (some ⟨g, 0, none⟩)] (by rfl) rfl rfl (by (try simp only [List.map_toArray, List.map_cons, List.map_nil]); first | done | rfl) ?_
 have hH := hHeld
 refine (len_calls (HBU2.out.below hH)).mono ?_
 rintro e w1 ⟨rfl, hw_⟩
 have hb_ := Below.of_eq' hw_
 clear hw_
 refine ⟨_, rfl, ?_⟩
 have hS : Below wo.heap.size wo w1 := hH.trans (hb_.mono hH.size)
 clear hb_ hH hHeld
 refine hK.out _ _ (hS) (fun hHeld => ?_)
 clear hK K
 refine norm_ (a' := ?_) ?_ ?_
 rotate_left
 ·show Act.put _ (some 6) _ = _
  simp only [Act.put, List.setIfInBounds_toArray, List.set_cons_zero, List.set_cons_succ, i64_w, i32_w]
  rfl
 refine pureS (i := 5) (N := (some 10)) #[true, true, true, true, true, true, false, false, false, false, false, false, false, false, false, false, false, false, false, false, false] HT_ ?_
 refine pureS (i := 6) (N := (some 11)) #[true, true, true, true, true, true, true, false, false, false, false, false, false, false, false, false, false, false, false, false, false] HT_ ?_
 refine pureS (i := 7) (N := (some 12)) #[true, true, true, true, true, true, true, true, false, false, false, false, false, false, false, false, false, false, false, false, false] HT_ ?_
 refine pureS (i := 9) (N := (some 14)) #[true, true, true, true, true, true, true, true, false, true, false, false, false, false, false, false, false, false, false, false, false] HT_ ?_
 refine take_ (i := 10) (N := (some 15)) (v := ?_) (a' := ?_) #[true, true, true, true, true, true, true, true, false, true, true, false, false, false, false, false, false, false, false, false, false] rfl rfl (take_ofW HT_.out HW_.out (by kernel_rfl)) (fun _ _ _ h => h) (Or.inl ⟨by rfl, ?_⟩) hHeld ?_ ?_
 rotate_left
 ·intro w' s0
  have f : w'.cell? ⟨gb, 0, none⟩ = some (.int .i64 room) := (blk_cell (blk_below HX.out s0) 0).trans rfl
  go_simp
  with_reducible rfl
 rotate_left
 ·simp only [Act.put, List.setIfInBounds_toArray, List.set_cons_zero, List.set_cons_succ, i64_w, i32_w]
  rfl
 refine one_ (i := 8) (N := (some 13)) #[true, true, true, true, true, true, true, true, true, true, true, false, false, false, false, false, false, false, false, false, false] rfl rfl (one_of HT_.out (by kernel_rfl)) (by decide) (fun K hK => ?_)
 refine goes_ Try.func40 (by kernel_rfl) rfl #[.pointer (some ⟨g, 0, none⟩)] (by rfl) rfl rfl (by (try simp only [List.map_toArray, List.map_cons, List.map_nil]); first | done | rfl) ?_
 have hH := hHeld
 refine (room_calls (HBU2.out.below hH)).mono ?_
 rintro e w1 ⟨rfl, hw_⟩
 have hb_ := Below.of_eq' hw_
 clear hw_
 refine ⟨_, rfl, ?_⟩
 have hS : Below wo.heap.size wo w1 := hH.trans (hb_.mono hH.size)
 clear hb_ hH hHeld
 refine hK.out _ _ (hS) (fun hHeld => ?_)
 clear hK K
 refine norm_ (a' := ?_) ?_ ?_
 rotate_left
 ·show Act.put _ (some 13) _ = _
  simp only [Act.put, List.setIfInBounds_toArray, List.set_cons_zero, List.set_cons_succ, i64_w, i32_w]
  rfl
 refine pureS (i := 11) (N := (some 16)) #[true, true, true, true, true, true, true, true, true, true, true, true, false, false, false, false, false, false, false, false, false] HT_ ?_
 refine pureS (i := 12) (N := (some 17)) #[true, true, true, true, true, true, true, true, true, true, true, true, true, false, false, false, false, false, false, false, false] HT_ ?_
 refine pureS (i := 13) (N := (some 18)) #[true, true, true, true, true, true, true, true, true, true, true, true, true, true, false, false, false, false, false, false, false] HT_ ?_
 refine pureS (i := 14) (N := (some 19)) #[true, true, true, true, true, true, true, true, true, true, true, true, true, true, true, false, false, false, false, false, false] HT_ ?_
 refine pureS (i := 16) (N := (some 21)) #[true, true, true, true, true, true, true, true, true, true, true, true, true, true, true, false, true, false, false, false, false] HT_ ?_
 refine take_ (i := 17) (N := (some 22)) (v := ?_) (a' := ?_) #[true, true, true, true, true, true, true, true, true, true, true, true, true, true, true, false, true, true, false, false, false] rfl rfl (take_ofW HT_.out HW_.out (by kernel_rfl)) (fun _ _ _ h => h) (Or.inl ⟨by rfl, ?_⟩) hHeld ?_ ?_
 rotate_left
 ·intro w' s0
  have f : w'.cell? ⟨gb, 1, none⟩ = some ((.slice A0 l.length c0)) := (blk_cell (blk_below HX.out s0) 1).trans rfl
  go_simp
  with_reducible rfl
 rotate_left
 ·simp only [Act.put, List.setIfInBounds_toArray, List.set_cons_zero, List.set_cons_succ, i64_w, i32_w]
  rfl
 refine one_ (i := 15) (N := (some 20)) #[true, true, true, true, true, true, true, true, true, true, true, true, true, true, true, true, true, true, false, false, false] rfl rfl (one_of HT_.out (by kernel_rfl)) (by decide) (fun K hK => ?_)
 refine goes_ Try.func22 (by kernel_rfl) rfl #[.pointer (some ⟨g, 0, none⟩)] (by rfl) rfl rfl (by (try simp only [List.map_toArray, List.map_cons, List.map_nil]); first | done | rfl) ?_
 have hH := hHeld
 refine (held_calls (HBU2.out.below hH) HN.out H64.out).mono ?_
 rintro e w1 ⟨v8, rfl, hs8, hb_⟩
 obtain ⟨A8, c8, rfl⟩ := Kd.S_slice hs8
 have HS8 := Aside0.mk (Kd.S_reads' hs8)
 clear hs8
 refine ⟨_, rfl, ?_⟩
 have hS : Below wo.heap.size wo w1 := hH.trans (hb_.mono hH.size)
 clear hb_ hH hHeld
 refine hK.out _ _ (hS) (fun hHeld => ?_)
 clear hK K
 refine norm_ (a' := ?_) ?_ ?_
 rotate_left
 ·show Act.put _ (some 20) _ = _
  simp only [Act.put, List.setIfInBounds_toArray, List.set_cons_zero, List.set_cons_succ, i64_w, i32_w]
  rfl
 refine one_ (i := 18) (N := (some 23)) #[true, true, true, true, true, true, true, true, true, true, true, true, true, true, true, true, true, true, true, false, false] rfl rfl (one_of HT_.out (by kernel_rfl)) (by decide) (fun K hK => ?_)
 refine goes_ Try.func15 (by kernel_rfl) rfl #[.slice A8 l.length c8, .slice A0 l.length c0] (by rfl) rfl rfl (by (try simp only [List.map_toArray, List.map_cons, List.map_nil]); first | done | rfl) ?_
 have hH := hHeld
 refine (sameAll_self A8 c8 A0 c0 l HS8.out.2.2 HS8.out.2.1 (Kd.C_below HC.out (HB.out.trans (hH.mono HB.out.size))) HL.out H64.out HN9.out).mono ?_
 rintro e w1 ⟨rfl, hb_⟩
 refine ⟨_, rfl, ?_⟩
 have hS : Below wo.heap.size wo w1 := hH.trans (hb_.mono hH.size)
 clear hb_ hH hHeld
 refine hK.out _ _ (hS) (fun hHeld => ?_)
 clear hK K
 refine norm_ (a' := ?_) ?_ ?_
 rotate_left
 ·show Act.put _ (some 23) _ = _
  simp only [Act.put, List.setIfInBounds_toArray, List.set_cons_zero, List.set_cons_succ, i64_w, i32_w]
  rfl
 refine pureS (i := 19) (N := (some 24)) #[true, true, true, true, true, true, true, true, true, true, true, true, true, true, true, true, true, true, true, true, false] HT_ ?_
 refine pureS (i := 20) (N := (some 4)) #[true, true, true, true, true, true, true, true, true, true, true, true, true, true, true, true, true, true, true, true, true] HT_ ?_
 refine done_ (done_of HT_.out (by kernel_rfl)) ?_
 go_wp2_with (fail)
 go_ret
 exact ⟨rfl, HB.out.trans (hHeld.mono HB.out.size)⟩
def staleF (known : List Int) (l : List S32) : List S32 := if chkC known = 0 then l.filter (fun x => !withinX known x) else l
set_option maxHeartbeats 8000000 in
set_option maxRecDepth 100000 in
theorem rstale_calls {w : World} {b0 : Nat} {P0 : Nat → Prop} (room : Int) (A0 : Option Addr) (c0 : Nat) (l : List S32) (hl : Kd.V k32 32 w b0 P0 (.slice A0 l.length c0) l) (hn : l.length < 1000) (A1 : Option Addr) (c1 : Nat) (known : List Int) (hk : Kd.C (Kd.int .i64) w A1 known.length known) (hkc : known.length ≤ c1) :
  Calls Try.prog 25 #[.agg #[.int .i64 room, .slice A0 l.length c0], .slice A1 known.length c1] w fun e w' => ∃ (A2 : Option Addr) (c2 : Nat), e = .returned (.tuple #[.agg #[.int .i64 room, .slice A2 (staleF known l).length c2], .int .i64 ((l.length : Int) - ((staleF known l).length : Int))]) ∧ Kd.V k32 32 w' w.heap.size (fun k => P0 k ∨ w.heap.size ≤ k) (.slice A2 (staleF known l).length c2) (staleF known l) ∧ Below w.heap.size w w' := by
 have hu52 := Try.underlying52
 have HL := Aside0.mk hl
 have HNL := Aside0.mk hn
 have HK := Aside0.mk hk
 have HKC := Aside0.mk hkc
 obtain ⟨sf, hsf⟩ : ∃ sf, staleF known l = sf := ⟨_, rfl⟩
 rw [hsf]
 have HSF := Aside0.mk hsf
 clear hl hn hk hkc hsf
 go_enter Try.func25, Try.ntmps25
 by_cases k1 : chkC known = 0
 case neg =>
  obtain rfl : l = sf := by rw [← HSF.out, staleF, if_neg k1]
  have e1 : (chkC known != 0) = true := bne_iff_ne.2 k1
  clear k1
  go_wp2_with (first | ((with_reducible refine gate_dst (N := 2) rfl ?_); refine box_event ?hg (N := 2) ?hd (cs := #[.int .i64 room, (.slice A0 l.length c0)]) (t := 52) ?hr ?_; (case hd => rfl); (case hg => rfl); (case hr => first | (go_simp; done) | (go_simp; rfl)); intro ga hr_ w1 hbox hb; have HXA := Aside0.mk hbox; have HB := Aside0.mk hb; have HNA := Aside0.mk (Nat.le_of_eq hr_.symm); clear hbox hb hr_) | ((with_reducible refine gate_dst (N := 4) rfl ?_); refine box_event ?hg (N := 4) ?hd (cs := #[.int .i64 0, (.slice none 0 0)]) (t := 52) ?hr ?_; (case hd => rfl); (case hg => rfl); (case hr => first | (go_simp; done) | (go_simp; rfl)); intro gc hr_ w2 hbox hb; have HAC := Aside0.mk (Nat.lt_of_lt_of_le (blk_lt HXA.out) (Nat.le_of_eq hr_.symm)); have n_ := Aside0.mk (blk_below HXA.out hb); clear HXA; have HXA := n_; clear n_; have n_ := Aside0.mk (HB.out.trans (hb.mono HB.out.size)); have HNC := Aside0.mk (Nat.le_trans HB.out.size (Nat.le_of_eq hr_.symm)); clear HB; have HB := n_; clear n_; have HXC := Aside0.mk hbox; clear hbox hb hr_) | (go_at_call 46; refine (topiaryref02_Check.calls 66 A1 c1 known _ _ (Kd.C_below HK.out HB.out) HKC.out (ref_Check_is known 66 (by decide))).mono ?_; rintro e w2 ⟨rfl, ⟨nd, hnd⟩⟩; have hb_ := drew_below hnd; clear hnd; have n_ := Aside0.mk (blk_below HXA.out hb_); clear HXA; have HXA := n_; clear n_; have n_ := Aside0.mk (blk_below HXC.out hb_); clear HXC; have HXC := n_; clear n_; have n_ := Aside0.mk (HB.out.trans (hb_.mono HB.out.size)); clear HB; have HB := n_; clear n_; clear hb_) | ((with_reducible refine gate_dst (N := 11) rfl ?_); refine load52_ev rfl (N := 11) rfl room (.slice A0 l.length c0) (p := .tmp 2) rfl (ad := ⟨ga, 0, none⟩) rfl (blk52 HXA.out) ?_) | ((with_reducible refine gate_store (t := 52) (p := 4) (v := .tmp 11) rfl ?_); refine store52_ev rfl rfl room (.slice A0 l.length c0) (p := .tmp 4) (q := .tmp 11) rfl (g := gc) rfl rfl rfl HXC.out rfl ?_; intro ws hb_ hg_; have HXs := Aside0.mk hb_; have HBs := Aside0.mk (HB.out.grown hg_ HB.out.size (fun k hk => by injection hk with hk; rw [← hk]; exact HNC.out)); clear hb_ hg_))
  refine bodyPost_ret (results_ct rfl _ _ gc 52 (bA room (.slice A0 l.length c0)) (0, 0) _ rfl HXs.out hu52 rfl (by kernel_rfl)) rfl ?_
  exact ⟨A0, c0, by rw [Int.sub_self]; rfl, Kd.V_mono (Kd.V_below HL.out HBs.out) (fun k hk => .inl hk), HBs.out⟩
 have hs1 := HSF.out
 rw [staleF, if_pos k1] at hs1
 have HS1 := Aside0.mk hs1
 have e1 : (chkC known != 0) = false := bne_eq_false_iff_eq.2 k1
 clear k1 hs1 HSF
 go_wp2_with (first | ((with_reducible refine gate_dst (N := 2) rfl ?_); refine box_event ?hg (N := 2) ?hd (cs := #[.int .i64 room, (.slice A0 l.length c0)]) (t := 52) ?hr ?_; (case hd => rfl); (case hg => rfl); (case hr => first | (go_simp; done) | (go_simp; rfl)); intro ga hr_ w1 hbox hb; have HXA := Aside0.mk hbox; have HB := Aside0.mk hb; have HNA := Aside0.mk (Nat.le_of_eq hr_.symm); clear hbox hb hr_) | ((with_reducible refine gate_dst (N := 4) rfl ?_); refine box_event ?hg (N := 4) ?hd (cs := #[.int .i64 0, (.slice none 0 0)]) (t := 52) ?hr ?_; (case hd => rfl); (case hg => rfl); (case hr => first | (go_simp; done) | (go_simp; rfl)); intro gc hr_ w2 hbox hb; have HAC := Aside0.mk (Nat.lt_of_lt_of_le (blk_lt HXA.out) (Nat.le_of_eq hr_.symm)); have n_ := Aside0.mk (blk_below HXA.out hb); clear HXA; have HXA := n_; clear n_; have n_ := Aside0.mk (HB.out.trans (hb.mono HB.out.size)); have HNC := Aside0.mk (Nat.le_trans HB.out.size (Nat.le_of_eq hr_.symm)); clear HB; have HB := n_; clear n_; have HXC := Aside0.mk hbox; clear hbox hb hr_) | (go_at_call 46; refine (topiaryref02_Check.calls 66 A1 c1 known _ _ (Kd.C_below HK.out HB.out) HKC.out (ref_Check_is known 66 (by decide))).mono ?_; rintro e w2 ⟨rfl, ⟨nd, hnd⟩⟩; have hb_ := drew_below hnd; clear hnd; have n_ := Aside0.mk (blk_below HXA.out hb_); clear HXA; have HXA := n_; clear n_; have n_ := Aside0.mk (blk_below HXC.out hb_); clear HXC; have HXC := n_; clear n_; have n_ := Aside0.mk (HB.out.trans (hb_.mono HB.out.size)); clear HB; have HB := n_; clear n_; clear hb_) | ((with_reducible refine gate_dst (N := 12) rfl ?_); refine Kd.N_lit k32 w.heap.size 32 ?hg (N' := 12) ?hd (xs := ([] : List S32)) (inner := []) (ok := (fun k => (P0 k ∧ k < w.heap.size ∨ w.heap.size ≤ k) ∧ k ≠ ga ∧ k ≠ gc)) (okp := (fun k => (P0 k ∧ k < w.heap.size ∨ w.heap.size ≤ k) ∧ k ≠ ga ∧ k ≠ gc)) ?hr ?hp (fun _ hk => hk) ⟨.inr HB.out.size, Nat.ne_of_gt (blk_lt HXA.out), Nat.ne_of_gt (blk_lt HXC.out)⟩ HB.out HB.out.size (by simp) ?_; (case hd => rfl); (case hg => rfl); (case hr => first | (go_simp; done) | (go_simp; rfl)); (case hp => exact (Reps.none _ _)); intro v5 w2 hN hb hg_ hnew_; have HN := Aside0.mk hN; have n_ := Aside0.mk ((hg_.block ga (blk_lt HXA.out) (fun h => by cases h)).trans HXA.out); clear HXA; have HXA := n_; clear n_; have n_ := Aside0.mk ((hg_.block gc (blk_lt HXC.out) (fun h => by cases h)).trans HXC.out); clear HXC HB; have HXC := n_; clear n_; have HB := Aside0.mk hb; clear hN hb hg_ hnew_))
 go_loopw [6, 7] (fun v6 v7 wq => ∃ (i : Nat) (o : List S32) (vo : Value), vo = v6 ∧ v7 = .int .i64 (i : Int) ∧ Aside0 (i ≤ l.length) ∧ Aside0 (Kd.N k32 32 wq w.heap.size (fun k => (P0 k ∧ k < w.heap.size ∨ w.heap.size ≤ k) ∧ k ≠ ga ∧ k ≠ gc) vo o) ∧ Aside0 (wq.heap[ga]? = some (.cells (bA room (.slice A0 l.length c0)) 52 (0, 0))) ∧ Aside0 (wq.heap[gc]? = some (.cells (bA 0 (.slice none 0 0)) 52 (0, 0))) ∧ Aside0 (Below w.heap.size w wq) ∧ Aside0 (o ++ (l.drop i).filter (fun x => !withinX known x) = sf) ∧ Aside0 (o.length ≤ i)) (fun _ v7 _ => l.length - (intOf v7).toNat)
 case atStart => exact ⟨0, [], _, rfl, rfl, ⟨Nat.zero_le _⟩, HN, HXA, HXC, HB, ⟨by rw [List.nil_append, List.drop_zero]; exact HS1.out⟩, ⟨Nat.le_refl _⟩⟩
 case round =>
  clear HN HXA HXC HB HS1
  obtain ⟨i, o, vo, rfl, rfl, HI, HN, HXA, HXC, HB, HE, HO⟩ := hrel
  obtain ⟨wo, rfl⟩ : ∃ wo, wo = wr := ⟨wr, rfl⟩
  have HON : Aside0 (o.length < 5000) := ⟨by have h1_ := HO.out; have h2_ := HI.out; have h3_ := HNL.out; omega⟩
  by_cases hi : i < l.length
  case neg =>
   have q1 : wo.cell? ⟨ga, 1, none⟩ = some (.slice A0 l.length c0) := (blk_cell HXA.out 1).trans rfl
   have e2 : decide (i < l.length) = false := decide_eq_false hi
   have he := HE.out
   rw [List.drop_of_length_le (by omega), List.filter_nil, List.append_nil] at he
   obtain rfl : o = sf := he
   have hvn := Kd.N_V (base' := 0) HN.out
   obtain ⟨A7, c7, rfl⟩ := Kd.V_slice hvn
   have HVN := Aside0.mk hvn
   have hw7 : wrap64 ((l.length : Int) - (o.length : Int)) = (l.length : Int) - (o.length : Int) := by have h1_ := HO.out; have h2_ := HI.out; have h3_ := HNL.out; rw [← i64_w, IntKind.wrap_i64]; omega
   clear hi HE hvn
   go_wp2_with (fail)
   clear q1
   refine start_ (n := 12) (S := (fun w' => w'.heap[ga]? = some (.cells (bA room (.slice A0 l.length c0)) 52 (0, 0)))) (ds := []) #[false, false, false, false, false, false, false, false, false, false, false, false] (by kernel_rfl) rfl rfl (blk_below HXA.out (below_drew (Below.refl _ _))) (fun hHeld => ?_)
   refine with_tabW stb.tab9 stb.bits9 (fun HT_ HW_ => ?_)
   refine pureS (i := 0) (N := (some 36)) #[true, false, false, false, false, false, false, false, false, false, false, false] HT_ ?_
   refine pureS (i := 2) (N := (some 38)) #[true, false, true, false, false, false, false, false, false, false, false, false] HT_ ?_
   refine pureS (i := 4) (N := (some 40)) #[true, false, true, false, true, false, false, false, false, false, false, false] HT_ ?_
   refine pureS (i := 7) (N := (some 43)) #[true, false, true, false, true, false, false, true, false, false, false, false] HT_ ?_
   refine pureS (i := 8) (N := (some 44)) #[true, false, true, false, true, false, false, true, true, false, false, false] HT_ ?_
   refine take_ (i := 1) (N := (some 37)) (v := ?_) (a' := ?_) #[true, true, true, false, true, false, false, true, true, false, false, false] rfl rfl (take_ofW HT_.out HW_.out (by kernel_rfl)) (fun _ _ _ h => h) (Or.inl ⟨by rfl, ?_⟩) hHeld ?_ ?_
   rotate_left
   ·intro w' s0
    have f : w'.cell? ⟨ga, 0, none⟩ = some (.int .i64 room) := (blk_cell s0 0).trans rfl
    go_simp
    with_reducible rfl
   rotate_left
   ·simp only [Act.put, List.setIfInBounds_toArray, List.set_cons_zero, List.set_cons_succ, i64_w, i32_w]
    rfl
   refine pureS (i := 3) (N := (some 39)) #[true, true, true, true, true, false, false, true, true, false, false, false] HT_ ?_
   refine take_ (i := 5) (N := (some 41)) (v := ?_) (a' := ?_) #[true, true, true, true, true, true, false, true, true, false, false, false] rfl rfl (take_ofW HT_.out HW_.out (by kernel_rfl)) (fun _ _ _ h => h) (Or.inl ⟨by rfl, ?_⟩) hHeld ?_ ?_
   rotate_left
   ·intro w' s0
    have f : w'.cell? ⟨ga, 1, none⟩ = some ((.slice A0 l.length c0)) := (blk_cell s0 1).trans rfl
    go_simp
    with_reducible rfl
   rotate_left
   ·simp only [Act.put, List.setIfInBounds_toArray, List.set_cons_zero, List.set_cons_succ, i64_w, i32_w]
    rfl
   refine pureS (i := 6) (N := (some 42)) #[true, true, true, true, true, true, true, true, true, false, false, false] HT_ ?_
   refine pureS (i := 9) (N := (some 45)) #[true, true, true, true, true, true, true, true, true, true, false, false] HT_ ?_
   refine one_ (i := 10) (N := none) #[true, true, true, true, true, true, true, true, true, true, true, false] rfl rfl (one_of HT_.out (by kernel_rfl)) (by decide) (fun K hK => ?_)
   have h6_ : Below wo.heap.size wo wo.drew := below_drew (Below.refl _ _)
   refine skip_ (w1 := _) (by rfl) rfl (store52_run (room := room) (v := (.slice A7 o.length c7)) _ rfl rfl rfl rfl (blk_below HXC.out h6_) rfl) ?_
   have HXs := Aside0.mk (setRow_heap _ gc _ (bA room (.slice A7 o.length c7)) 52 (0, 0) (blk_below HXC.out h6_))
   have HBs := Aside0.mk (row_below (HB.out.trans (h6_.mono HB.out.size)) HNC.out (blk_below HXC.out h6_) (bA room (.slice A7 o.length c7)))
   have HV7 := Aside0.mk (Kd.V_step (w1 := World.setRow _ gc (bA room (.slice A7 o.length c7))) (Kd.V_below HVN.out h6_) (fun k hk _ => setRow_other _ gc k _ (fun e => hk.2.2 e)))
   have hS := (setRow_other wo.drew gc ga (bA room (.slice A7 o.length c7)) (Nat.ne_of_lt HAC.out)).trans hHeld
   clear hHeld h6_
   refine hK.out _ _ (hS) (fun hHeld => ?_)
   clear hK K
   refine pureS (i := 11) (N := (some 5)) #[true, true, true, true, true, true, true, true, true, true, true, true] HT_ ?_
   refine done_ (done_of HT_.out (by kernel_rfl)) ?_
   try go_wp2
   refine bodyPost_ret (results_ct rfl _ _ gc 52 (bA room (.slice A7 o.length c7)) (0, 0) _ rfl HXs.out hu52 rfl (by kernel_rfl)) rfl ?_
   exact ⟨A7, c7, rfl, Kd.V_mono HV7.out (fun k hk => by rcases hk.1 with h | h; exact .inl h.1; exact .inr h), HBs.out⟩
  have HI' := Aside0.mk hi
  obtain ⟨ad, A4, c4, rfl, hcc, hl4, hV4⟩ := elemV HL.out hi
  have hd := rd32_drop hi
  generalize rd_T32 l (i : Int) = y at *
  have HYC := Aside0.mk hcc
  have HYV := Aside0.mk hV4
  have HIW := Aside0.mk (w1s (n := i) (by have h1_ := HNL.out; omega))
  have b1 : (0 ≤ (i : Int)) = True := eq_true (by omega)
  have b2 : ((i : Int) < (l.length : Int)) = True := eq_true (by omega)
  have b3 : (i < l.length) = True := eq_true hi
  have b4 : decide (i < l.length) = true := decide_eq_true hi
  have q1 : wo.cell? ⟨ga, 1, none⟩ = some (.slice (some ad) l.length c0) := (blk_cell HXA.out 1).trans rfl
  have he := HE.out
  rw [hd, List.filter_cons] at he
  obtain ⟨wb, hwb⟩ : ∃ wb, withinX known y = wb := ⟨_, rfl⟩
  rw [hwb] at he
  have HWB := Aside0.mk hwb
  have HE2 := Aside0.mk he
  clear hcc hl4 hV4 hi hd HE he hwb
  cases wb with
  | true =>
   go_wp2_with (first | ((with_reducible refine gate_dst (N := 24) rfl ?_); refine load32_ev rfl (N := 24) rfl y (.slice A4 y.f2.length c4) (p := .tmp 23) rfl rfl (fun j u hj => HYC.out _ HB.out j u hj) ?_) | (go_at_call 50; refine (topiaryref07_Within.calls y.f0.f0 y.f0.f1 y.f1 A4 c4 y.f2 y.f3 y.f4.f0 y.f4.f1 y.f5.f0 y.f5.f1 y.f6.f0 y.f6.f1 y.f7 y.f8 A1 c1 known _ _ (Kd.C_below (Kd.V_reads' HYV.out).2.2 HB.out) (Kd.V_reads' HYV.out).2.1 (Kd.C_below HK.out HB.out) HKC.out (within_is known y)).mono ?_; clear q1; rw [HWB.out]; rintro e w2 ⟨rfl, hb_⟩; have n_ := Aside0.mk (blk_below HXA.out hb_); clear HXA; have HXA := n_; clear n_; have n_ := Aside0.mk (blk_below HXC.out hb_); clear HXC; have HXC := n_; clear n_; have n_ := Aside0.mk (HB.out.trans (hb_.mono HB.out.size)); clear HB; have HB := n_; clear n_; have n_ := Aside0.mk (Kd.N_below HN.out hb_); clear HN; have HN := n_; clear n_ hb_; have q1 : w2.cell? ⟨ga, 1, none⟩ = some (.slice (some ad) l.length c0) := (blk_cell HXA.out 1).trans rfl))
   rw [HIW.out]
   exact ⟨⟨i + 1, o, _, rfl, rfl, ⟨HI'.out⟩, HN, HXA, HXC, HB, ⟨by have h_ := HE2.out; rw [Bool.not_true, if_neg Bool.false_ne_true] at h_; exact h_⟩, ⟨Nat.le_succ_of_le HO.out⟩⟩, dec_lt HI'.out⟩
  | false =>
   go_wp2_with (first | ((with_reducible refine gate_dst (N := 24) rfl ?_); refine load32_ev rfl (N := 24) rfl y (.slice A4 y.f2.length c4) (p := .tmp 23) rfl rfl (fun j u hj => HYC.out _ HB.out j u hj) ?_) | (go_at_call 50; refine (topiaryref07_Within.calls y.f0.f0 y.f0.f1 y.f1 A4 c4 y.f2 y.f3 y.f4.f0 y.f4.f1 y.f5.f0 y.f5.f1 y.f6.f0 y.f6.f1 y.f7 y.f8 A1 c1 known _ _ (Kd.C_below (Kd.V_reads' HYV.out).2.2 HB.out) (Kd.V_reads' HYV.out).2.1 (Kd.C_below HK.out HB.out) HKC.out (within_is known y)).mono ?_; clear q1; rw [HWB.out]; rintro e w2 ⟨rfl, hb_⟩; have n_ := Aside0.mk (blk_below HXA.out hb_); clear HXA; have HXA := n_; clear n_; have n_ := Aside0.mk (blk_below HXC.out hb_); clear HXC; have HXC := n_; clear n_; have n_ := Aside0.mk (HB.out.trans (hb_.mono HB.out.size)); clear HB; have HB := n_; clear n_; have n_ := Aside0.mk (Kd.N_below HN.out hb_); clear HN; have HN := n_; clear n_ hb_; have q1 : w2.cell? ⟨ga, 1, none⟩ = some (.slice (some ad) l.length c0) := (blk_cell HXA.out 1).trans rfl) | ((with_reducible refine gate_dst (N := 33) rfl ?_); refine load32_ev rfl (N := 33) rfl y (.slice A4 y.f2.length c4) (p := .tmp 32) rfl rfl (fun j u hj => HYC.out _ HB.out j u hj) ?_) | ((with_reducible refine gate_builtin (b := .append) (xs := #[.tmp 28, .tmp 34]) rfl ?_); at_builtin; refine app32 (w0 := w) w.heap.size rfl (.tmp 28) (.tmp 34) rfl vo o y A4 c4 (fun k => (P0 k ∧ k < w.heap.size ∨ w.heap.size ≤ k) ∧ k ≠ ga ∧ k ≠ gc) rfl rfl (Kd.V_mono (Kd.V_below HYV.out HB.out) (fun k hk => ⟨⟨.inl hk, fun e => by have h1_ := HNA.out; have h2_ := hk.2; omega, fun e => by have h1_ := HNC.out; have h2_ := hk.2; omega⟩, fun e => by have h1_ := Kd.N_base HN.out k e.symm; have h2_ := hk.2; omega⟩)) (fun k hk => ⟨.inr (Nat.le_trans HB.out.size hk), fun e => by have h_ := blk_lt HXA.out; omega, fun e => by have h_ := blk_lt HXC.out; omega⟩) HN.out HB.out HB.out.size (by have h_ := HON.out; omega) ?_; intro v5 w2 hN hb hg_ hat_; have n_ := Aside0.mk ((hg_.block ga (blk_lt HXA.out) (Kd.N_away HN.out (fun k hk => hk.2.1))).trans HXA.out); clear HXA; have HXA := n_; clear n_; have n_ := Aside0.mk ((hg_.block gc (blk_lt HXC.out) (Kd.N_away HN.out (fun k hk => hk.2.2))).trans HXC.out); clear HXC HB HN; have HXC := n_; clear n_; have HB := Aside0.mk hb; have HN := Aside0.mk hN; clear hN hb hg_ hat_))
   rw [HIW.out]
   exact ⟨⟨i + 1, o ++ [y], _, rfl, rfl, ⟨HI'.out⟩, HN, HXA, HXC, HB, ⟨by have h_ := HE2.out; rw [Bool.not_false, if_pos rfl] at h_; rw [List.append_assoc]; exact h_⟩, ⟨by rw [List.length_append]; exact Nat.succ_le_succ HO.out⟩⟩, dec_lt HI'.out⟩
end Go.Proofs.Ytnopjjilpgekfaa.PCa
