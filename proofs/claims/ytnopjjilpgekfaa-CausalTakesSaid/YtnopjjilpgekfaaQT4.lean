/- What the statement's row needs of this session's texts, joined by program: part 5. -/
import Derived.WalkMore
import Derived.Deep.LoopGhost
import Derived.Test.YtnopjjilpgekfaaQT3
namespace Go.Proofs.Ytnopjjilpgekfaa.PCa
open Go.RowKit Go.Proofs.YtnopjjilpgekfaaW.PrintWords Go.Proofs.YtnopjjilpgekfaaW.PrintLast Go.Proofs.YtnopjjilpgekfaaW.PrintMore
attribute [local go_sem] max2_int min2_int max_two min_two max_three min_three max_four min_four
set_option linter.unusedVariables false
set_option linter.unusedSimpArgs false
theorem grown_below {w w1 : World} (h : w.grownBy w1 none) : Below w.heap.size w w1 := ⟨h.os, h.tape, h.output, h.size, fun k hk => h.block k hk (by simp)⟩
theorem rel_start {w w0 w1 w2 : World} {base g : Nat} {P X : Nat → Prop} {room : Int} {l : List S32} {x : S32} {v1 v7 : Value} {now : List Int} (hB : BufI w base (fun k => P k ∧ k < w.heap.size) g room l) (hXP : ∀ k, X k → ¬ P k) (hb0 : Below w.heap.size w w0) (hb1 : Below w0.heap.size w0 w1) (hb2 : Below w1.heap.size w1 w2)
  (hs : Kd.S k32 32 w1 base (fun k => X k ∨ w0.heap.size ≤ k) v7 [x]) (hk : (Kd.int .i64).R 3 w2 w1.heap.size (fun _ => True) v1 now) (hc : chkC now = 0) (hbs : base ≤ w.heap.size) (hat : ∃ b, v7.ownBlock = some b ∧ w0.heap.size ≤ b) :
  RelI w base P X g room w2 v1 v7 now [x] l (fun k => P k ∧ k < w.heap.size) (fun k => (X k ∨ w0.heap.size ≤ k) ∧ k < w1.heap.size) (fun k => w1.heap.size ≤ k) := by
 have h0 := hb0.size
 have h1 := hb1.size
 have h2 := hb2.size
 have hbw : Below w.heap.size w w2 := (hb0.trans (hb1.mono h0)).trans (hb2.mono (Nat.le_trans h0 h1))
 refine ⟨hB.below hbw, Kd.S_below (Kd.S_mono (Kd.S_bound hs) (fun k hk => ⟨hk.1, hk.2.2.1⟩)) hb2, Kd.R_lower (Kd.R_mono (Kd.R_bound hk) (fun k hk => hk.2.1)) (by omega), hc, fun k hk => ⟨hk.1, by omega⟩, fun k hk => ⟨fun hp => ?_, by omega⟩, fun k hk => ?_, fun k hk => ⟨fun hp => by omega, fun ho => by omega⟩, Kept.of_below hbw _, fun k hk => ?_⟩
 ·rcases hk.1 with h | h
  ·exact hXP k h hp.1
  ·omega
 ·rcases hk.1 with h | h
  ·exact .inl h
  ·exact .inr (.inr (by omega))
 ·obtain ⟨b, hb, hle⟩ := hat
  rw [hb] at hk
  injection hk with hk
  omega
theorem rel_rows {w wr wd we : World} {base g : Nat} {P P' X O K O1 : Nat → Prop} {room : Int} {left out : List S32} {kv v7 : Value} {now : List Int} (h : RelI w base P X g room wr kv v7 now out left P' O K) (hb : Below wr.heap.size wr wd) (hk : Kept wd we P') (hO1 : ∀ k, O1 k → P' k) :
  Kd.S k32 32 we base (fun k => (O k ∨ O1 k ∨ we.heap.size ≤ k) ∧ ¬ O1 k) v7 out :=
 Kd.S_mono (Kd.S_step (Kd.S_below h.rows hb) (fun k ho hlt => hk.block k hlt (h.OP' k ho).1)) (fun k ho => ⟨.inl ho, fun h1 => (h.OP' k ho).1 (hO1 k h1)⟩)
theorem rel_next {w wr wc wd we wf : World} {base g i : Nat} {P P' X O K O1 : Nat → Prop} {room : Int} {left out : List S32} {kv v7 vn v8 : Value} {now now' : List Int} {y : S32} (h : RelI w base P X g room wr kv v7 now out left P' O K) (hbc : Below wr.heap.size wr wc) (hbd : Below wc.heap.size wc wd) (hn : (Kd.int .i64).R 3 wd wc.heap.size (fun _ => True) vn now') (hc : chkC now' = 0)
  (hk : Kept wd we P') (hO1 : ∀ k, O1 k → P' k) (hbuf : BufI we base (fun k => P' k ∧ ¬ O1 k) g room (left.eraseIdx i)) (hs : Kd.S k32 32 wf base (fun k => O k ∨ O1 k ∨ we.heap.size ≤ k) v8 (out ++ [y])) (hg : we.grownBy wf v7.ownBlock) (hat : v8.ownBlock = v7.ownBlock ∨ ∃ b, v8.ownBlock = some b ∧ we.heap.size ≤ b) :
  RelI w base P X g room wf vn v8 now' (out ++ [y]) (left.eraseIdx i) (fun k => P' k ∧ ¬ O1 k) (fun k => (O k ∨ O1 k ∨ we.heap.size ≤ k) ∧ k < wf.heap.size) (fun k => wc.heap.size ≤ k ∧ k < wd.heap.size) := by
 have h1 := hbc.size
 have h2 := hbd.size
 have h3 := hk.size
 have h4 := hg.size
 have hrow : ∀ k, some k = v7.ownBlock → O k := fun k hk => (Kd.S_R h.rows).1 k hk.symm
 have hbs := h.buf.base_le
 have hP' : ∀ k, P' k → P k ∧ k < wr.heap.size := h.P'P
 refine ⟨hbuf.step (fun k hk hlt => hg.block k hlt (fun e => (h.OP' k (hrow k e)).1 hk.1)), Kd.S_mono (Kd.S_bound hs) (fun k hk => ⟨hk.1, hk.2.2.1⟩), ?_, hc, fun k hk => ⟨(hP' k hk.1).1, by have := (hP' k hk.1).2; omega⟩, fun k hk => ⟨fun hp => ?_, hk.2⟩, fun k hk => ?_, fun k hk => ⟨fun hp => by have := (hP' k hp.1).2; omega, fun ho => ?_⟩, ?_, fun k hk => ?_⟩
 ·refine Kd.R_lower (Kd.R_step (Kd.R_step (Kd.R_mono (Kd.R_bound hn) (ok' := fun k => wc.heap.size ≤ k ∧ k < wd.heap.size) (fun k hk => ⟨hk.2.1, hk.2.2.1⟩)) (fun k ho hlt => hk.block k hlt (fun hp => by have := (hP' k hp).2; omega))) (fun k ho hlt => hg.block k hlt (fun e => by have := (h.OP' k (hrow k e)).2; omega))) (by omega)
 ·rcases hk.1 with h5 | h5 | h5
  ·exact (h.OP' k h5).1 hp.1
  ·exact hp.2 h5
  ·have := (hP' k hp.1).2; omega
 ·rcases hk.1 with h5 | h5 | h5
  ·exact h.OX k h5
  ·exact .inr (.inl (hP' k (hO1 k h5)).1)
  ·have := h.kept.size
   exact .inr (.inr (by omega))
 ·rcases ho.1 with h5 | h5 | h5
  ·have := (h.OP' k h5).2; omega
  ·have := (hP' k (hO1 k h5)).2; omega
  ·omega
 ·have k1 : Kept w wd P := (h.kept.below hbc).below hbd
  have k2 : Kept w we P := k1.then_ hk (fun k hk => .inl (hP' k hk).1)
  exact Kept.of_grown hg k2 (fun k hk => .inr (h.fresh k hk))
 ·have h0 := h.kept.size
  rcases hat with e | ⟨b, e, hle⟩
  ·exact h.fresh k (e ▸ hk)
  ·rw [e] at hk
   injection hk with hk
   omega
theorem dec_lt {n i : Nat} (h : i < n) : n - (intOf (Value.int .i64 ((i + 1 : Nat) : Int))).toNat < n - (intOf (Value.int .i64 (i : Int))).toNat := by
 show n - ((i + 1 : Nat) : Int).toNat < n - (i : Int).toNat
 rw [Int.toNat_natCast, Int.toNat_natCast]
 omega
theorem rel_lit {w w0 : World} {base : Nat} {X : Nat → Prop} {x : S32} {v : Value} (h : (Kd.int .i64).R 3 w base (fun k => X k ∧ base ≤ k ∧ k < w.heap.size ∧ ∃ q, q ∈ 3 :: (Kd.int .i64).E ∧ ∃ cells, w.heap[k]? = some (.cells cells q (0, 0))) v x.f2) (hb : Below w.heap.size w w0) :
  ∀ (j : Nat) (y : S32), [x][j]? = some y → k32.M w0 base (fun k => j = 0 ∧ X k ∧ k < w.heap.size) y (((chL x v).drop (j * k32.sz)).take k32.sz) := by
 intro j y hy
 cases j with
 | zero =>
  injection hy with hy
  subst hy
  exact chMk (Kd.R_mono (Kd.R_below h hb) (fun k hk => ⟨rfl, hk.1, hk.2.2.1⟩))
 | succ j => cases hy
set_option maxHeartbeats 8000000 in
set_option maxRecDepth 100000 in
theorem release_calls {w : World} {base : Nat} {P X : Nat → Prop} {g : Nat} {room : Int} {l : List S32} (hB : BufI w base P g room l) (hn : l.length < 1000) (A0 : Option Addr) (c0 : Nat) (known : List Int) (hk : Kd.C (Kd.int .i64) w A0 known.length known) (hkc : known.length ≤ c0)
  (x : S32) (A3 : Option Addr) (c3 : Nat) (hx : (Kd.int .i64).R 3 w base X (.slice A3 x.f2.length c3) x.f2) (hXP : ∀ k, X k → ¬ P k) (hl64 : ∀ y ∈ l, y.f2.length ≤ 64) :
  Calls Try.prog 38 #[.pointer (some ⟨g, 0, none⟩), .slice A0 known.length c0, (.agg #[.int .i64 x.f0.f0, .int .i64 x.f0.f1, .int .i64 x.f1, (.slice A3 x.f2.length c3), .int .i64 x.f3, .int .i64 x.f4.f0, .int .i64 x.f4.f1, .int .i64 x.f5.f0, .int .i64 x.f5.f1, .int .i64 x.f6.f0, .int .i64 x.f6.f1, .string x.f7, .string x.f8])] w fun e w' => ∃ (P' O : Nat → Prop) (v' : Value), e = .returned v' ∧ BufI w' base P' g room (relF l.length (tickC known x.f0.f1).1 [x] l).2 ∧ Kd.S k32 32 w' base O v' (relF l.length (tickC known x.f0.f1).1 [x] l).1 ∧ (∀ k, P' k → P k) ∧ (∀ k, O k → ¬ P' k) ∧ (∀ k, O k → X k ∨ P k ∨ w.heap.size ≤ k) ∧ Kept w w' P := by
 have HBUF := Aside0.mk hB.bound
 have HC3 := Aside0.mk (Kd.R_reads' hx).2.2
 have HL3 := Aside0.mk (Kd.R_reads' hx).2.1
 have HXR := Aside0.mk (Kd.R_bound hx)
 have HXP := Aside0.mk hXP
 have HK := Aside0.mk hk
 have HKC := Aside0.mk hkc
 have HN := Aside0.mk hn
 have H64 := Aside0.mk hl64
 have HBASE := Aside0.mk hB.base_le
 have HTK := Aside0.mk (causal_tick_is known x 301 (by omega))
 clear hB hx hXP hk hkc hn hl64
 go_enter Try.func38, Try.ntmps38
 go_wp2_with (first | ((with_reducible refine gate_dst (N := 5) rfl ?_); refine box_event ?hg (N := 5) ?hd (cs := #[.int .i64 x.f0.f0, .int .i64 x.f0.f1, .int .i64 x.f1, (.slice A3 x.f2.length c3), .int .i64 x.f3, .int .i64 x.f4.f0, .int .i64 x.f4.f1, .int .i64 x.f5.f0, .int .i64 x.f5.f1, .int .i64 x.f6.f0, .int .i64 x.f6.f1, .string x.f7, .string x.f8]) (t := 32) ?hr ?_; (case hd => rfl); (case hg => rfl); (case hr => first | (go_simp; done) | (go_simp; rfl)); intro gb hr_ w0 hbox hb; have HXgb := Aside0.mk hbox; have HBgb := Aside0.mk hb; have HNgb := Aside0.mk (Nat.le_of_eq hr_.symm); clear hbox hb hr_))
 go_step3
 go_wp2_with (first | ((with_reducible refine gate_dst (N := 10) rfl ?_); refine load32_ev rfl (N := 10) rfl x (.slice A3 x.f2.length c3) (p := .tmp 5) rfl (ad := ⟨gb, 0, none⟩) rfl (blk_cells HXgb.out) ?_) | ((with_reducible refine gate_dst (N := 11) rfl ?_); refine Kd.S_lits k32 (w0 := w0) base 32 ?hg (N := 11) ?hd (xs := [x]) (inner := chL x (.slice A3 x.f2.length c3)) (ok := fun k => X k ∨ w0.heap.size ≤ k) (fun j k => j = 0 ∧ X k ∧ k < w.heap.size) ?hr rfl ?hrep (fun i j k hi hj => hi.1.trans hj.1.symm) (fun j k hj => .inl hj.2.1) (.inr (Nat.le_refl _)) (Below.refl _ _) (Nat.le_trans HBASE.out HBgb.out.size) (by simp) ?_; (case hd => rfl); (case hg => rfl); (case hr => first | (go_simp; done) | (go_simp; rfl)); (case hrep => exact rel_lit HXR.out HBgb.out); intro v7 w1 hs_ hb_ hg_ hat_; have HS1 := Aside0.mk hs_; have HB1 := Aside0.mk (grown_below hg_); have HX1 := Aside0.mk (blk_below HXgb.out (grown_below hg_)); have HAT := Aside0.mk hat_; clear hs_ hb_ hg_ hat_) | ((with_reducible refine gate_dst (N := 13) rfl ?_); refine load32_ev rfl (N := 13) rfl x (.slice A3 x.f2.length c3) (p := .tmp 5) rfl (ad := ⟨gb, 0, none⟩) rfl (blk_cells HX1.out) ?_) | (go_at_call 66; (with_reducible refine (causal_tick.calls 301 A0 c0 known x.f0.f0 x.f0.f1 x.f1 A3 c3 x.f2 x.f3 x.f4.f0 x.f4.f1 x.f5.f0 x.f5.f1 x.f6.f0 x.f6.f1 x.f7 x.f8 _ _ ?s1 ?s2 ?s3 ?s4 HTK.out).mono ?_); (case s1 => exact Kd.C_below (Kd.C_below HK.out HBgb.out) HB1.out); (case s2 => exact HKC.out); (case s3 => exact Kd.C_below (Kd.C_below HC3.out HBgb.out) HB1.out); (case s4 => exact HL3.out); rintro e w2 ⟨v1, rfl, hk2, hb2⟩; have HK2 := Aside0.mk hk2; have HB2 := Aside0.mk hb2; clear hk2 hb2))
 go_step3
 go_wp2_with (fail)
 have hst := rel_start HBUF.out HXP.out HBgb.out HB1.out HB2.out HS1.out HK2.out (tick_chk known x.f0.f1) HBASE.out HAT.out
 have HST := Aside0.mk hst
 clear hst
 go_loopg [1, 7] l.length (fun kq v1' v7' wr => ∃ (now : List Int) (out left : List S32) (P' O K : Nat → Prop) (ov : Value), ov = v7' ∧ Aside0 (left.length = kq) ∧ Aside0 (RelI w base P X g room wr v1' ov now out left P' O K) ∧ Aside0 (relF left.length now out left = relF l.length (tickC known x.f0.f1).1 [x] l) ∧ Aside0 (∀ y ∈ left, y ∈ l) ∧ Aside0 (out.length + left.length = l.length + 1))
 case atStart => exact ⟨_, _, _, _, _, _, _, rfl, ⟨rfl⟩, HST, ⟨rfl⟩, ⟨fun _ h => h⟩, ⟨by rw [List.length_singleton]; omega⟩⟩
 case round =>
  clear HST HK2 HB2 HAT HX1 HB1 HS1 HXgb HTK
  obtain ⟨now, out, left, P', O, K, ov, rfl, HLEN, HR, HF, HSUB, HOL⟩ := hrel
  obtain ⟨wo, rfl⟩ : ∃ wo, wo = wr := ⟨wr, rfl⟩
  obtain ⟨Ak, ck, rfl⟩ := Kd.R_slice HR.out.clk
  obtain ⟨mb, es, cc, A, ch, hO⟩ := HR.out.buf.opened
  have HO := Aside0.mk hO
  have q1 : wo.cell? ⟨g, 1, none⟩ = some (.slice A left.length ch) := (blk_cell hO.blk 1).trans rfl
  clear hO
  go_wp2_with (fail)
  go_loopw [1, 7, 23] (fun v1q v7q v23 wq => ∃ i : Nat, v1q = .slice Ak now.length ck ∧ ov = v7q ∧ v23 = .int .i64 (i : Int) ∧ Aside0 (i ≤ left.length) ∧ Aside0 (∀ m, m < i → ripeC now (rd_T32 left (m : Int)) = false) ∧ Aside0 (Below wo.heap.size wo wq)) (fun _ _ v23 _ => left.length - (intOf v23).toNat)
  case atStart => exact ⟨0, rfl, rfl, rfl, ⟨Nat.zero_le _⟩, ⟨fun m hm => absurd hm (Nat.not_lt_zero m)⟩, ⟨Below.refl _ _⟩⟩
  case round =>
   clear q1
   obtain ⟨i, rfl, rfl, rfl, HI, HNR, HBq⟩ := hrel
   by_cases hi : i < left.length
   case neg =>
    have e1 : decide (i < left.length) = false := decide_eq_false hi
    have hnone : ∀ z ∈ left, ripeC now z = false := fun z hz => by
     obtain ⟨m, hm⟩ := List.mem_iff_getElem?.1 hz
     have hml := (List.getElem?_eq_some_iff.1 hm).1
     rw [rd32_at hml] at hm
     injection hm with hm
     rw [← hm]
     exact HNR.out m (by omega)
    have HE := Aside0.mk ((relF_none (out := out) hnone).symm.trans HF.out)
    clear hnone hi
    go_wp2_with (fail)
    rw [Exit.noGoto_ret]
    go_ret
    refine ⟨P', O, ov, rfl, ?_, ?_, fun k hk => (HR.out.P'P k hk).1, fun k hk => (HR.out.OP' k hk).1, HR.out.OX, HR.out.kept.below HBq.out⟩
    ·rw [← HE.out]
     exact HR.out.buf.below HBq.out
    ·rw [← HE.out]
     exact Kd.S_below HR.out.rows HBq.out
   have HI' := Aside0.mk hi
   obtain ⟨gr, cap, hform, hbgr, hgrw, cells, hgr⟩ := Kd.S_form HO.out.row (by omega)
   injection hform with hA _ hch
   subst hA; subst hch
   obtain ⟨c', hcl, hM, hcc, hfr⟩ := Kd.R_elem (Kd.S_R HO.out.row) z32 (i : Int) (by omega) (by omega)
   rw [Int.toNat_natCast] at hcc
   obtain ⟨v, rfl, hv⟩ := chM hM
   have hv2 : (Kd.int .i64).R 3 wo base _ v (rd_T32 left (i : Int)).f2 := hv
   have hcc2 : ∀ j u, (chL (rd_T32 left (i : Int)) v)[j]? = some u → wo.cell? ⟨gr, i * 13 + j, none⟩ = some u := hcc
   have hy : rd_T32 left (i : Int) ∈ left := List.mem_of_getElem? (rd32_at hi)
   obtain ⟨y, hyy⟩ : ∃ y, rd_T32 left (i : Int) = y := ⟨_, rfl⟩
   rw [hyy] at hv2 hcc2 hy
   clear hv hcc hM hcl hfr
   obtain ⟨Ae, ce, rfl, hle, hCe⟩ := Kd.R_reads hv2
   have HY := Aside0.mk hyy
   have HCC := Aside0.mk hcc2
   have HCE := Aside0.mk (Kd.C_below hCe HBq.out)
   have HLE := Aside0.mk hle
   have HRD := Aside0.mk (ready_is (known := now) (x := y) HR.out.chk (H64.out y (HSUB.out y hy)) 71 (by decide))
   have HGRW := Aside0.mk hgrw
   have b1 : (0 ≤ (i : Int)) = True := eq_true (by omega)
   have b2 : ((i : Int) < (left.length : Int)) = True := eq_true (by omega)
   have b3 : (i < left.length) = True := eq_true hi
   have e1 : decide ((i : Int) < (left.length : Int)) = true := decide_eq_true (by omega)
   clear hyy hcc2 hCe hle hgrw hgr hbgr hv2 hy hi
   by_cases hrp : ripeC now y = true
   ·rw [hrp] at HRD
    have HRP := Aside0.mk hrp
    have HTK2 := Aside0.mk (causal_tick_is now y 301 (by omega))
    clear hrp
    go_wp2_with (first | ((with_reducible refine gate_dst (N := 27) rfl ?_); refine load32_ev rfl (N := 27) rfl y (.slice Ae y.f2.length ce) (p := .tmp 26) rfl (ad := ⟨gr, i * 13, none⟩) rfl (fun j u hj => by rw [add_at]; exact (HBq.out.cell (p := ⟨gr, i * 13 + j, none⟩) HGRW.out).trans (HCC.out j u hj)) ?_) | ((with_reducible refine gate_dst (N := 9) rfl ?_); refine box_event ?hg (N := 9) ?hd (cs := #[.int .i64 0, .int .i64 0, .int .i64 0, .slice none 0 0, .int .i64 0, .int .i64 0, .int .i64 0, .int .i64 0, .int .i64 0, .int .i64 0, .int .i64 0, .string ⟨#[]⟩, .string ⟨#[]⟩]) (t := 32) ?hr ?_; (case hd => rfl); (case hg => rfl); (case hr => first | (go_simp; done) | (go_simp; rfl)); intro gc hr_ wa hbox hb; have HXgc := Aside0.mk hbox; have HBgc := Aside0.mk hb; have HNgc := Aside0.mk (Nat.le_of_eq hr_.symm); clear hbox hb hr_) | ((with_reducible refine gate_store (t := 32) (p := 9) (v := .tmp 27) rfl ?_); refine store32_ev rfl rfl y (.slice Ae y.f2.length ce) (p := .tmp 9) (q := .tmp 27) rfl (g := gc) rfl rfl rfl HXgc.out rfl ?_; intro wb hb_ hg_; have HSgc := Aside0.mk hb_; have HGgc := Aside0.mk hg_; clear hb_ hg_; have HBqb := Aside0.mk (HBgc.out.grown HGgc.out HBgc.out.size (fun k hk => by injection hk with hk; rw [← hk]; exact HNgc.out)); have HBb := Aside0.mk (HBq.out.trans (HBqb.out.mono HBq.out.size))) | ((with_reducible refine gate_dst (N := 29) rfl ?_); refine load32_ev rfl (N := 29) rfl y (.slice Ae y.f2.length ce) (p := .tmp 9) rfl (ad := ⟨gc, 0, none⟩) rfl (blk_cells HSgc.out) ?_) | (go_at_call 37; (with_reducible refine (causal_ready.calls 71 Ak ck now y.f0.f0 y.f0.f1 y.f1 Ae ce y.f2 y.f3 y.f4.f0 y.f4.f1 y.f5.f0 y.f5.f1 y.f6.f0 y.f6.f1 y.f7 y.f8 _ _ ?s1 ?s2 ?s3 ?s4 HRD.out).mono ?_); (case s1 => exact Kd.C_below (Kd.R_reads' HR.out.clk).2.2 HBb.out); (case s2 => exact (Kd.R_reads' HR.out.clk).2.1); (case s3 => exact Kd.C_below HCE.out HBqb.out); (case s4 => exact HLE.out); rintro e wc ⟨rfl, hbc⟩; have HBC := Aside0.mk hbc; clear hbc) | ((with_reducible refine gate_dst (N := 32) rfl ?_); refine load32_ev rfl (N := 32) rfl y (.slice Ae y.f2.length ce) (p := .tmp 9) rfl (ad := ⟨gc, 0, none⟩) rfl (blk_cells (blk_below HSgc.out HBC.out)) ?_) | (go_at_call 66; (with_reducible refine (causal_tick.calls 301 Ak ck now y.f0.f0 y.f0.f1 y.f1 Ae ce y.f2 y.f3 y.f4.f0 y.f4.f1 y.f5.f0 y.f5.f1 y.f6.f0 y.f6.f1 y.f7 y.f8 _ _ ?s1 ?s2 ?s3 ?s4 HTK2.out).mono ?_); (case s1 => exact Kd.C_below (Kd.C_below (Kd.R_reads' HR.out.clk).2.2 HBb.out) HBC.out); (case s2 => exact (Kd.R_reads' HR.out.clk).2.1); (case s3 => exact Kd.C_below (Kd.C_below HCE.out HBqb.out) HBC.out); (case s4 => exact HLE.out); rintro e wd ⟨vn, rfl, hn2, hbd⟩; have HN2 := Aside0.mk hn2; have HBD := Aside0.mk hbd; have HOC := Aside0.mk (HBb.out.trans (HBC.out.mono HBb.out.size)); have HOD := Aside0.mk (HOC.out.trans (HBD.out.mono HOC.out.size)); clear hn2 hbd) | (go_at_call 56; (with_reducible refine (take_calls (HR.out.buf.below HOD.out) i HI'.out ?s1).mono ?_); (case s1 => have h1_ := HN.out; have h2_ := HOL.out; omega); rw [HY.out]; rintro e we ⟨O1, v1e, rfl, hv1, hO1P, hbuf, hkp⟩; have HV1 := Aside0.mk hv1; have HO1P := Aside0.mk hO1P; have HBUF1 := Aside0.mk hbuf; have HKP := Aside0.mk hkp; have HROWS := Aside0.mk (rel_rows HR.out HOD.out HKP.out HO1P.out); clear hv1 hO1P hbuf hkp) | ((with_reducible refine gate_builtin (b := .append) (xs := #[.tmp 34, .tmp 38]) rfl ?_); at_builtin; refine Kd.S_append k32 (w0 := we) base rfl (.tmp 34) (.tmp 38) 22 32 (.agg #[.int .i64 0, .int .i64 0, .int .i64 0, .slice none 0 0, .int .i64 0, .int .i64 0, .int .i64 0, .int .i64 0, .int .i64 0, .int .i64 0, .int .i64 0, .string ⟨#[]⟩, .string ⟨#[]⟩]) 136 rfl Try.underlying22 info32 rfl (by decide) (by omega) ov out y (chL y v1e) (fun k => O k ∨ O1 k ∨ we.heap.size ≤ k) O1 rfl rfl (chMk HV1.out) ?hokp (fun k hk => .inr (.inr hk)) HROWS.out (Below.refl _ _) HBUF1.out.base_le ?hl ?_; (case hokp => exact fun k hk => ⟨.inr (.inl hk), fun e => (HR.out.OP' k ((Kd.S_R HR.out.rows).1 k e.symm)).1 (HO1P.out k hk)⟩); (case hl => have h1_ := HN.out; have h2_ := HOL.out; omega); intro v8 wf hs8 hb8 hg8 hat8; have HS8 := Aside0.mk hs8; have HG8 := Aside0.mk hg8; have HAT8 := Aside0.mk hat8; clear hs8 hb8 hg8 hat8))
    have hnx := relF_next (now := now) (out := out) HI'.out (by rw [HY.out]; exact HRP.out) (fun m hm => HNR.out m hm)
    rw [HY.out] at hnx
    have HNX := Aside0.mk (hnx.symm.trans HF.out)
    clear hnx
    go_roundg (left.length - 1)
    case measure => have h1_ := HLEN.out; have h2_ := HI'.out; omega
    case rel =>
     exact ⟨_, _, _, _, _, _, _, rfl, ⟨List.length_eraseIdx_of_lt HI'.out⟩, ⟨rel_next HR.out HOC.out HBD.out HN2.out (tick_chk _ _) HKP.out HO1P.out HBUF1.out HS8.out HG8.out HAT8.out⟩, HNX, ⟨fun z hz => HSUB.out z (List.mem_of_mem_eraseIdx hz)⟩, ⟨by rw [List.length_append, List.length_singleton, List.length_eraseIdx_of_lt HI'.out]; have h1_ := HI'.out; have h2_ := HOL.out; omega⟩⟩
   ·have hrf : ripeC now y = false := by simpa using hrp
    rw [hrf] at HRD
    have HRP := Aside0.mk hrf
    clear hrp hrf
    go_wp2_with (first | ((with_reducible refine gate_dst (N := 27) rfl ?_); refine load32_ev rfl (N := 27) rfl y (.slice Ae y.f2.length ce) (p := .tmp 26) rfl (ad := ⟨gr, i * 13, none⟩) rfl (fun j u hj => by rw [add_at]; exact (HBq.out.cell (p := ⟨gr, i * 13 + j, none⟩) HGRW.out).trans (HCC.out j u hj)) ?_) | ((with_reducible refine gate_dst (N := 9) rfl ?_); refine box_event ?hg (N := 9) ?hd (cs := #[.int .i64 0, .int .i64 0, .int .i64 0, .slice none 0 0, .int .i64 0, .int .i64 0, .int .i64 0, .int .i64 0, .int .i64 0, .int .i64 0, .int .i64 0, .string ⟨#[]⟩, .string ⟨#[]⟩]) (t := 32) ?hr ?_; (case hd => rfl); (case hg => rfl); (case hr => first | (go_simp; done) | (go_simp; rfl)); intro gc hr_ wa hbox hb; have HXgc := Aside0.mk hbox; have HBgc := Aside0.mk hb; have HNgc := Aside0.mk (Nat.le_of_eq hr_.symm); clear hbox hb hr_) | ((with_reducible refine gate_store (t := 32) (p := 9) (v := .tmp 27) rfl ?_); refine store32_ev rfl rfl y (.slice Ae y.f2.length ce) (p := .tmp 9) (q := .tmp 27) rfl (g := gc) rfl rfl rfl HXgc.out rfl ?_; intro wb hb_ hg_; have HSgc := Aside0.mk hb_; have HGgc := Aside0.mk hg_; clear hb_ hg_; have HBqb := Aside0.mk (HBgc.out.grown HGgc.out HBgc.out.size (fun k hk => by injection hk with hk; rw [← hk]; exact HNgc.out)); have HBb := Aside0.mk (HBq.out.trans (HBqb.out.mono HBq.out.size))) | ((with_reducible refine gate_dst (N := 29) rfl ?_); refine load32_ev rfl (N := 29) rfl y (.slice Ae y.f2.length ce) (p := .tmp 9) rfl (ad := ⟨gc, 0, none⟩) rfl (blk_cells HSgc.out) ?_) | (go_at_call 37; (with_reducible refine (causal_ready.calls 71 Ak ck now y.f0.f0 y.f0.f1 y.f1 Ae ce y.f2 y.f3 y.f4.f0 y.f4.f1 y.f5.f0 y.f5.f1 y.f6.f0 y.f6.f1 y.f7 y.f8 _ _ ?s1 ?s2 ?s3 ?s4 HRD.out).mono ?_); (case s1 => exact Kd.C_below (Kd.R_reads' HR.out.clk).2.2 HBb.out); (case s2 => exact (Kd.R_reads' HR.out.clk).2.1); (case s3 => exact Kd.C_below HCE.out HBqb.out); (case s4 => exact HLE.out); rintro e wc ⟨rfl, hbc⟩; have HBC := Aside0.mk hbc; clear hbc))
    have hiw : i < 100000 := by have h1_ := HI'.out; have h2_ := HN.out; have h3_ := HOL.out; omega
    rw [Go.Proofs.Ytnopjjilpgekfaa.PCa.w1 hiw]
    refine ⟨⟨i + 1, rfl, rfl, rfl, ⟨HI'.out⟩, ⟨fun m hm => ?_⟩, ⟨HBb.out.trans (HBC.out.mono HBb.out.size)⟩⟩, dec_lt HI'.out⟩
    rcases Nat.lt_or_eq_of_le (Nat.le_of_lt_succ hm) with h1_ | h1_
    ·exact HNR.out m h1_
    ·rw [h1_, HY.out]
     exact HRP.out
def change_Copy.f (a0_0 : Int) (a0_1 : Int) (a0_2 : Int) (l0_3 : List Int) (a0_4 : Int) (a0_5 : Int) (a0_6 : Int) (a0_7 : Int) (a0_8 : Int) (a0_9 : Int) (a0_10 : Int) (a0_11 : ByteArray) (a0_12 : ByteArray) : Option (Int × Int × Int × List Int × Int × Int × Int × Int × Int × Int × Int × ByteArray × ByteArray) := (some (([] : List Int) : List Int)).bind fun y387 => (if y387.length + l0_3.length < 17592186044416 then (some (a0_0, a0_1, a0_2, (y387 ++ l0_3), a0_4, a0_5, a0_6, a0_7, a0_8, a0_9, a0_10, a0_11, a0_12)) else (none))
set_option maxHeartbeats 8000000 in
set_option maxRecDepth 100000 in
theorem change_Copy.calls (a0_0 : Int) (a0_1 : Int) (a0_2 : Int) (A0_3 : Option Addr) (c0_3 : Nat) (l0_3 : List Int) (a0_4 : Int) (a0_5 : Int) (a0_6 : Int) (a0_7 : Int) (a0_8 : Int) (a0_9 : Int) (a0_10 : Int) (a0_11 : ByteArray) (a0_12 : ByteArray) (r1 : Int) (r2 : Int) (r3 : Int) (r4 : List Int) (r5 : Int) (r6 : Int) (r7 : Int) (r8 : Int) (r9 : Int) (r10 : Int) (r11 : Int) (r12 : ByteArray) (r13 : ByteArray) (w : World) (hr0_3 : Kd.C (Kd.int .i64) w A0_3 l0_3.length l0_3) (hc0_3 : l0_3.length ≤ c0_3) (h : change_Copy.f a0_0 a0_1 a0_2 l0_3 a0_4 a0_5 a0_6 a0_7 a0_8 a0_9 a0_10 a0_11 a0_12 = some (r1, r2, r3, r4, r5, r6, r7, r8, r9, r10, r11, r12, r13)) :
  Calls Try.prog 39 #[.agg #[.int .i64 a0_0, .int .i64 a0_1, .int .i64 a0_2, .slice A0_3 l0_3.length c0_3, .int .i64 a0_4, .int .i64 a0_5, .int .i64 a0_6, .int .i64 a0_7, .int .i64 a0_8, .int .i64 a0_9, .int .i64 a0_10, .string a0_11, .string a0_12]] w fun e w' => ∃ v3_ : Value, e = .returned (.agg #[.int .i64 r1, .int .i64 r2, .int .i64 r3, v3_, .int .i64 r5, .int .i64 r6, .int .i64 r7, .int .i64 r8, .int .i64 r9, .int .i64 r10, .int .i64 r11, .string r12, .string r13]) ∧ Kd.R (Kd.int .i64) 3 w' w.heap.size (fun _ => True) v3_ r4 ∧ Below w.heap.size w w' := by
 have hu32 := Try.underlying32
 have HR0_3 := Aside0.mk hr0_3
 have HC0_3 := Aside0.mk hc0_3
 clear hr0_3 hc0_3
 have HB := Aside0.mk (Below.refl w.heap.size w)
 have H : ((some (([] : List Int) : List Int)).bind fun y387 => (if y387.length + l0_3.length < 17592186044416 then (some (a0_0, a0_1, a0_2, (y387 ++ l0_3), a0_4, a0_5, a0_6, a0_7, a0_8, a0_9, a0_10, a0_11, a0_12)) else (none))) = some (r1, r2, r3, r4, r5, r6, r7, r8, r9, r10, r11, r12, r13) := h
 clear h
 obtain ⟨y387, hy387⟩ : ∃ y_ : List Int, y_ = (([] : List Int)) := ⟨_, rfl⟩
 replace H : (if y387.length + l0_3.length < 17592186044416 then (some (a0_0, a0_1, a0_2, (y387 ++ l0_3), a0_4, a0_5, a0_6, a0_7, a0_8, a0_9, a0_10, a0_11, a0_12)) else (none)) = some (r1, r2, r3, r4, r5, r6, r7, r8, r9, r10, r11, r12, r13) := by first | (rw [hy387]; with_reducible exact H) | (have H2_ := (Option.bind_some _ _).symm.trans H; rw [hy387]; with_reducible exact H2_) | (have H2_ := (Option.bind_some _ _).symm.trans H; with_reducible exact H2_) | with_reducible exact H | (rw [hy387]; exact H) | exact H
 have Ny387 := Aside0.mk hy387
 clear hy387
 by_cases c2 : y387.length + l0_3.length < 17592186044416
 ·rw [if_pos c2] at H
  have LMc2 := Aside0.mk c2
  clear c2
  obtain ⟨y390, hy390⟩ : ∃ y_ : List Int, y_ = (y387 ++ l0_3) := ⟨_, rfl⟩
  replace H : (some (a0_0, a0_1, a0_2, y390, a0_4, a0_5, a0_6, a0_7, a0_8, a0_9, a0_10, a0_11, a0_12)) = some (r1, r2, r3, r4, r5, r6, r7, r8, r9, r10, r11, r12, r13) := by first | (rw [hy390]; with_reducible exact H) | (have H2_ := (Option.bind_some _ _).symm.trans H; rw [hy390]; with_reducible exact H2_) | (have H2_ := (Option.bind_some _ _).symm.trans H; with_reducible exact H2_) | with_reducible exact H | (rw [hy390]; exact H) | exact H
  have Ny390 := Aside0.mk hy390
  clear hy390
  simp only [Option.some.injEq, Prod.mk.injEq] at H
  obtain ⟨rfl, rfl, rfl, rfl, rfl, rfl, rfl, rfl, rfl, rfl, rfl, rfl, rfl⟩ := H
  go_enter Try.func39, Try.ntmps39
  go_wp2_with (first | ((with_reducible refine gate_dst (N := 1) rfl ?_); refine box_event ?hg (N := 1) ?hd (cs := #[.int .i64 a0_0, .int .i64 a0_1, .int .i64 a0_2, .slice A0_3 l0_3.length c0_3, .int .i64 a0_4, .int .i64 a0_5, .int .i64 a0_6, .int .i64 a0_7, .int .i64 a0_8, .int .i64 a0_9, .int .i64 a0_10, .string a0_11, .string a0_12]) (t := 32) ?hr ?_; (case hd => rfl); (case hg => rfl); (case hr => first | (go_simp; done) | (go_simp; rfl)); intro gb385 hg w3 hbox hb; have n0_ := Aside0.mk (below_step (by repeat (first | (with_reducible first | exact HB.out | apply below_alloc | apply pw_below_drewN | apply below_drew1) | exact HB.out)) hb); have n1_ := Aside0.mk (hbox); have n2_ := Aside0.mk ((by rw [hg]; exact (below_size (by repeat (first | (with_reducible first | exact HB.out | apply below_alloc | apply pw_below_drewN | apply below_drew1) | exact HB.out))) : w.heap.size ≤ gb385)); have n3_ := Aside0.mk ((by rw [hg]; exact (below_size (by repeat (first | (with_reducible first | exact HB.out | apply below_alloc | apply pw_below_drewN | apply below_drew1) | exact HB.out))) : w.heap.size ≤ gb385)); clear HB; have HB := n0_; have BK385 := n1_; have GW385 := n2_; have GE385 := n3_; clear n0_ n1_ n2_ n3_; clear hb hbox hg) | ((with_reducible refine gate_dst (N := 2) rfl ?_); refine box_event ?hg (N := 2) ?hd (cs := #[.int .i64 0, .int .i64 0, .int .i64 0, .slice none 0 0, .int .i64 0, .int .i64 0, .int .i64 0, .int .i64 0, .int .i64 0, .int .i64 0, .int .i64 0, .string (⟨#[]⟩ : ByteArray), .string (⟨#[]⟩ : ByteArray)]) (t := 32) ?hr ?_; (case hd => rfl); (case hg => rfl); (case hr => first | (go_simp; done) | (go_simp; rfl)); intro gb386 hg w4 hbox hb; have n0_ := Aside0.mk (blk_below (g := gb385) (o := .cells #[.int .i64 a0_0, .int .i64 a0_1, .int .i64 a0_2, .slice A0_3 l0_3.length c0_3, .int .i64 a0_4, .int .i64 a0_5, .int .i64 a0_6, .int .i64 a0_7, .int .i64 a0_8, .int .i64 a0_9, .int .i64 a0_10, .string a0_11, .string a0_12] 32 (0, 0)) (by (with_reducible repeat (first | refine blk_drewN ?_ _ | refine blk_drew ?_ | refine blk_alloc ?_ _)); exact BK385.out) hb); have n1_ := Aside0.mk (below_step (by repeat (first | (with_reducible first | exact HB.out | apply below_alloc | apply pw_below_drewN | apply below_drew1 | refine below_set ?_ GE385.out) | exact HB.out)) hb); have n2_ := Aside0.mk (hbox); have n3_ := Aside0.mk ((by rw [hg]; exact (below_size (by repeat (first | (with_reducible first | exact HB.out | apply below_alloc | apply pw_below_drewN | apply below_drew1 | refine below_set ?_ GE385.out) | exact HB.out))) : w.heap.size ≤ gb386)); have n4_ := Aside0.mk ((by rw [hg]; exact (below_size (by repeat (first | (with_reducible first | exact HB.out | apply below_alloc | apply pw_below_drewN | apply below_drew1 | refine below_set ?_ GE385.out) | exact HB.out))) : w.heap.size ≤ gb386)); have n5_ := Aside0.mk ((by rw [hg]; exact Nat.ne_of_lt (blk_lt (g := gb385) (o := .cells #[.int .i64 a0_0, .int .i64 a0_1, .int .i64 a0_2, .slice A0_3 l0_3.length c0_3, .int .i64 a0_4, .int .i64 a0_5, .int .i64 a0_6, .int .i64 a0_7, .int .i64 a0_8, .int .i64 a0_9, .int .i64 a0_10, .string a0_11, .string a0_12] 32 (0, 0)) (by (with_reducible repeat (first | refine blk_drewN ?_ _ | refine blk_drew ?_ | refine blk_alloc ?_ _)); exact BK385.out)) : gb385 ≠ gb386)); have n6_ := Aside0.mk ((by rw [hg]; exact Nat.ne_of_gt (blk_lt (g := gb385) (o := .cells #[.int .i64 a0_0, .int .i64 a0_1, .int .i64 a0_2, .slice A0_3 l0_3.length c0_3, .int .i64 a0_4, .int .i64 a0_5, .int .i64 a0_6, .int .i64 a0_7, .int .i64 a0_8, .int .i64 a0_9, .int .i64 a0_10, .string a0_11, .string a0_12] 32 (0, 0)) (by (with_reducible repeat (first | refine blk_drewN ?_ _ | refine blk_drew ?_ | refine blk_alloc ?_ _)); exact BK385.out)) : gb386 ≠ gb385)); clear BK385; clear HB; have BK385 := n0_; have HB := n1_; have BK386 := n2_; have GW386 := n3_; have GE386 := n4_; have NB385_386 := n5_; have NB386_385 := n6_; clear n0_ n1_ n2_ n3_ n4_ n5_ n6_; clear hb hbox hg) | ((with_reducible refine gate_dst (N := 3) rfl ?_); refine Kd.R_lit (Kd.int .i64) _ 3 ?hg (N := 3) ?hd (xs := ([] : List Int)) (inner := []) (ok := fun _ => True) (okp := fun _ => True) ?hr ?hp (fun _ hk => hk) trivial (Below.refl _ _) (Nat.le_refl _) (by simp) ?_; (case hd => rfl); (case hg => rfl); (case hr => first | (go_simp; done) | (go_simp; rfl)); (case hp => exact (Reps.none _ _)); intro v388 w5 ho6 hb hg_ hnew_; clear hg_ hnew_; (first | rw [← Ny387.out] at ho6 | (simp only [Int.reduceToNat] at ho6; rw [← Ny387.out] at ho6)); have n0_ := Aside0.mk (Kd.R_lower ho6 (below_size (by repeat (first | (with_reducible first | exact HB.out | apply below_alloc | apply pw_below_drewN | apply below_drew1 | refine below_set ?_ GE385.out | refine below_set ?_ GE386.out) | exact HB.out)))); have n1_ := Aside0.mk (blk_below (g := gb385) (o := .cells #[.int .i64 a0_0, .int .i64 a0_1, .int .i64 a0_2, .slice A0_3 l0_3.length c0_3, .int .i64 a0_4, .int .i64 a0_5, .int .i64 a0_6, .int .i64 a0_7, .int .i64 a0_8, .int .i64 a0_9, .int .i64 a0_10, .string a0_11, .string a0_12] 32 (0, 0)) (by (with_reducible repeat (first | refine blk_drewN ?_ _ | refine blk_drew ?_ | refine blk_alloc ?_ _)); exact BK385.out) hb); have n2_ := Aside0.mk (blk_below (g := gb386) (o := .cells #[.int .i64 0, .int .i64 0, .int .i64 0, .slice none 0 0, .int .i64 0, .int .i64 0, .int .i64 0, .int .i64 0, .int .i64 0, .int .i64 0, .int .i64 0, .string (⟨#[]⟩ : ByteArray), .string (⟨#[]⟩ : ByteArray)] 32 (0, 0)) (by (with_reducible repeat (first | refine blk_drewN ?_ _ | refine blk_drew ?_ | refine blk_alloc ?_ _)); exact BK386.out) hb); have n3_ := Aside0.mk (below_step (by repeat (first | (with_reducible first | exact HB.out | apply below_alloc | apply pw_below_drewN | apply below_drew1 | refine below_set ?_ GE385.out | refine below_set ?_ GE386.out) | exact HB.out)) hb); clear BK385; clear BK386; clear HB; have HO389 := n0_; have BK385 := n1_; have BK386 := n2_; have HB := n3_; clear n0_ n1_ n2_ n3_; clear hb ho6; have hnb7 := NB385_386.out; have hnc7 := NB386_385.out; obtain ⟨hcz8_0, hcz8_1, hcz8_2, hcz8_3, hcz8_4, hcz8_5, hcz8_6, hcz8_7, hcz8_8, hcz8_9, hcz8_10, hcz8_11, hcz8_12⟩ := cells13 BK385.out; obtain ⟨hfz8_0, hfz8_1, hfz8_2, hfz8_3, hfz8_4, hfz8_5, hfz8_6, hfz8_7, hfz8_8, hfz8_9, hfz8_10, hfz8_11, hfz8_12⟩ := froz13 BK385.out) | ((with_reducible refine gate_builtin (b := .append) (xs := #[.tmp 3, .tmp 5]) rfl ?_); at_builtin; refine Kd.R_append_rows (Kd.int .i64) (w0 := w) w.heap.size rfl (.tmp 3) (.tmp 5) 23 3 (.int .i64 0) 8 rfl Try.underlying23 info3 rfl (by decide) (by omega) v388 y387 l0_3 _ _ _ (fun _ => True) (fun _ => False) rfl rfl ?aO ?aR (fun _ _ h => h) (fun _ h => h.elim) ?aF ?aB ?aS ?aL ?_; (case aR => repeat (first | exact (Kd.C_below HR0_3.out HB.out) | (with_reducible refine Kd.C_alloc ?_ _) | (with_reducible refine Kd.C_drewN ?_ _) | (with_reducible refine Kd.C_drew ?_))); (case aB => exact (by repeat (first | (with_reducible first | exact HB.out | apply below_alloc | apply pw_below_drewN | apply below_drew1 | refine below_set ?_ GE385.out | refine below_set ?_ GE386.out) | exact HB.out))); (case aF => exact (fun _ _ => trivial)); (case aO => exact (by (with_reducible repeat (first | apply Kd.R_alloc | apply Kd.R_drewN | apply Kd.R_drew)); exact HO389.out)); (case aS => exact (below_size (by repeat (first | (with_reducible first | exact HB.out | apply below_alloc | apply pw_below_drewN | apply below_drew1 | refine below_set ?_ GE385.out | refine below_set ?_ GE386.out) | exact HB.out)))); (case aL => have := LMc2.out; omega); intro v391 w9 ho hb hg hat; rw [← Ny390.out] at ho; have n0_ := Aside0.mk (blk_grown (g := gb385) (o := .cells #[.int .i64 a0_0, .int .i64 a0_1, .int .i64 a0_2, .slice A0_3 l0_3.length c0_3, .int .i64 a0_4, .int .i64 a0_5, .int .i64 a0_6, .int .i64 a0_7, .int .i64 a0_8, .int .i64 a0_9, .int .i64 a0_10, .string a0_11, .string a0_12] 32 (0, 0)) (by (with_reducible repeat (first | refine blk_drewN ?_ _ | refine blk_drew ?_ | refine blk_alloc ?_ _)); exact BK385.out) hg (Kd.R_ne HO389.out BK385.out (by decide))); have n1_ := Aside0.mk (blk_grown (g := gb386) (o := .cells #[.int .i64 0, .int .i64 0, .int .i64 0, .slice none 0 0, .int .i64 0, .int .i64 0, .int .i64 0, .int .i64 0, .int .i64 0, .int .i64 0, .int .i64 0, .string (⟨#[]⟩ : ByteArray), .string (⟨#[]⟩ : ByteArray)] 32 (0, 0)) (by (with_reducible repeat (first | refine blk_drewN ?_ _ | refine blk_drew ?_ | refine blk_alloc ?_ _)); exact BK386.out) hg (Kd.R_ne HO389.out BK386.out (by decide))); have n2_ := Aside0.mk (hb); have n3_ := Aside0.mk (ho); clear BK385; clear BK386; clear HB; clear HO389; have BK385 := n0_; have BK386 := n1_; have HB := n2_; have HO392 := n3_; clear n0_ n1_ n2_ n3_; clear ho hb hg hat; obtain ⟨Ao10, co10, eo10⟩ := Kd.R_slice HO392.out; subst eo10; obtain ⟨hcz11_0, hcz11_1, hcz11_2, hcz11_3, hcz11_4, hcz11_5, hcz11_6, hcz11_7, hcz11_8, hcz11_9, hcz11_10, hcz11_11, hcz11_12⟩ := cells13 BK385.out; obtain ⟨hfz11_0, hfz11_1, hfz11_2, hfz11_3, hfz11_4, hfz11_5, hfz11_6, hfz11_7, hfz11_8, hfz11_9, hfz11_10, hfz11_11, hfz11_12⟩ := froz13 BK385.out; obtain ⟨hcz12_0, hcz12_1, hcz12_2, hcz12_3, hcz12_4, hcz12_5, hcz12_6, hcz12_7, hcz12_8, hcz12_9, hcz12_10, hcz12_11, hcz12_12⟩ := cells13 BK386.out; obtain ⟨hfz12_0, hfz12_1, hfz12_2, hfz12_3, hfz12_4, hfz12_5, hfz12_6, hfz12_7, hfz12_8, hfz12_9, hfz12_10, hfz12_11, hfz12_12⟩ := froz13 BK386.out))
  refine bodyPost_ret (results_cell_row rfl _ _ gb386 32 #[.int .i64 a0_0, .int .i64 a0_1, .int .i64 a0_2, .slice Ao10 y390.length co10, .int .i64 a0_4, .int .i64 a0_5, .int .i64 a0_6, .int .i64 a0_7, .int .i64 a0_8, .int .i64 a0_9, .int .i64 a0_10, .string a0_11, .string a0_12] (0, 0) _ rfl (by (with_reducible repeat (first | refine blk_drewN ?_ _ | refine blk_drew ?_ | refine blk_alloc ?_ _)); refine blk_put (cs := #[.int .i64 a0_0, .int .i64 a0_1, .int .i64 a0_2, .slice Ao10 y390.length co10, .int .i64 a0_4, .int .i64 a0_5, .int .i64 a0_6, .int .i64 a0_7, .int .i64 a0_8, .int .i64 a0_9, .int .i64 a0_10, .string a0_11, .string (⟨#[]⟩ : ByteArray)]) ?_ 12 _ rfl; (with_reducible repeat (first | refine blk_drewN ?_ _ | refine blk_drew ?_ | refine blk_alloc ?_ _)); refine blk_put (cs := #[.int .i64 a0_0, .int .i64 a0_1, .int .i64 a0_2, .slice Ao10 y390.length co10, .int .i64 a0_4, .int .i64 a0_5, .int .i64 a0_6, .int .i64 a0_7, .int .i64 a0_8, .int .i64 a0_9, .int .i64 a0_10, .string (⟨#[]⟩ : ByteArray), .string (⟨#[]⟩ : ByteArray)]) ?_ 11 _ rfl; (with_reducible repeat (first | refine blk_drewN ?_ _ | refine blk_drew ?_ | refine blk_alloc ?_ _)); refine blk_put (cs := #[.int .i64 a0_0, .int .i64 a0_1, .int .i64 a0_2, .slice Ao10 y390.length co10, .int .i64 a0_4, .int .i64 a0_5, .int .i64 a0_6, .int .i64 a0_7, .int .i64 a0_8, .int .i64 a0_9, .int .i64 0, .string (⟨#[]⟩ : ByteArray), .string (⟨#[]⟩ : ByteArray)]) ?_ 10 _ rfl; (with_reducible repeat (first | refine blk_drewN ?_ _ | refine blk_drew ?_ | refine blk_alloc ?_ _)); refine blk_put (cs := #[.int .i64 a0_0, .int .i64 a0_1, .int .i64 a0_2, .slice Ao10 y390.length co10, .int .i64 a0_4, .int .i64 a0_5, .int .i64 a0_6, .int .i64 a0_7, .int .i64 a0_8, .int .i64 0, .int .i64 0, .string (⟨#[]⟩ : ByteArray), .string (⟨#[]⟩ : ByteArray)]) ?_ 9 _ rfl; (with_reducible repeat (first | refine blk_drewN ?_ _ | refine blk_drew ?_ | refine blk_alloc ?_ _)); refine blk_put (cs := #[.int .i64 a0_0, .int .i64 a0_1, .int .i64 a0_2, .slice Ao10 y390.length co10, .int .i64 a0_4, .int .i64 a0_5, .int .i64 a0_6, .int .i64 a0_7, .int .i64 0, .int .i64 0, .int .i64 0, .string (⟨#[]⟩ : ByteArray), .string (⟨#[]⟩ : ByteArray)]) ?_ 8 _ rfl; (with_reducible repeat (first | refine blk_drewN ?_ _ | refine blk_drew ?_ | refine blk_alloc ?_ _)); refine blk_put (cs := #[.int .i64 a0_0, .int .i64 a0_1, .int .i64 a0_2, .slice Ao10 y390.length co10, .int .i64 a0_4, .int .i64 a0_5, .int .i64 a0_6, .int .i64 0, .int .i64 0, .int .i64 0, .int .i64 0, .string (⟨#[]⟩ : ByteArray), .string (⟨#[]⟩ : ByteArray)]) ?_ 7 _ rfl; (with_reducible repeat (first | refine blk_drewN ?_ _ | refine blk_drew ?_ | refine blk_alloc ?_ _)); refine blk_put (cs := #[.int .i64 a0_0, .int .i64 a0_1, .int .i64 a0_2, .slice Ao10 y390.length co10, .int .i64 a0_4, .int .i64 a0_5, .int .i64 0, .int .i64 0, .int .i64 0, .int .i64 0, .int .i64 0, .string (⟨#[]⟩ : ByteArray), .string (⟨#[]⟩ : ByteArray)]) ?_ 6 _ rfl; (with_reducible repeat (first | refine blk_drewN ?_ _ | refine blk_drew ?_ | refine blk_alloc ?_ _)); refine blk_put (cs := #[.int .i64 a0_0, .int .i64 a0_1, .int .i64 a0_2, .slice Ao10 y390.length co10, .int .i64 a0_4, .int .i64 0, .int .i64 0, .int .i64 0, .int .i64 0, .int .i64 0, .int .i64 0, .string (⟨#[]⟩ : ByteArray), .string (⟨#[]⟩ : ByteArray)]) ?_ 5 _ rfl; (with_reducible repeat (first | refine blk_drewN ?_ _ | refine blk_drew ?_ | refine blk_alloc ?_ _)); refine blk_put (cs := #[.int .i64 a0_0, .int .i64 a0_1, .int .i64 a0_2, .slice Ao10 y390.length co10, .int .i64 0, .int .i64 0, .int .i64 0, .int .i64 0, .int .i64 0, .int .i64 0, .int .i64 0, .string (⟨#[]⟩ : ByteArray), .string (⟨#[]⟩ : ByteArray)]) ?_ 4 _ rfl; (with_reducible repeat (first | refine blk_drewN ?_ _ | refine blk_drew ?_ | refine blk_alloc ?_ _)); refine blk_put (cs := #[.int .i64 a0_0, .int .i64 a0_1, .int .i64 a0_2, .slice none 0 0, .int .i64 0, .int .i64 0, .int .i64 0, .int .i64 0, .int .i64 0, .int .i64 0, .int .i64 0, .string (⟨#[]⟩ : ByteArray), .string (⟨#[]⟩ : ByteArray)]) ?_ 3 _ rfl; (with_reducible repeat (first | refine blk_drewN ?_ _ | refine blk_drew ?_ | refine blk_alloc ?_ _)); refine blk_put (cs := #[.int .i64 a0_0, .int .i64 a0_1, .int .i64 0, .slice none 0 0, .int .i64 0, .int .i64 0, .int .i64 0, .int .i64 0, .int .i64 0, .int .i64 0, .int .i64 0, .string (⟨#[]⟩ : ByteArray), .string (⟨#[]⟩ : ByteArray)]) ?_ 2 _ rfl; (with_reducible repeat (first | refine blk_drewN ?_ _ | refine blk_drew ?_ | refine blk_alloc ?_ _)); refine blk_put (cs := #[.int .i64 a0_0, .int .i64 0, .int .i64 0, .slice none 0 0, .int .i64 0, .int .i64 0, .int .i64 0, .int .i64 0, .int .i64 0, .int .i64 0, .int .i64 0, .string (⟨#[]⟩ : ByteArray), .string (⟨#[]⟩ : ByteArray)]) ?_ 1 _ rfl; (with_reducible repeat (first | refine blk_drewN ?_ _ | refine blk_drew ?_ | refine blk_alloc ?_ _)); refine blk_put (cs := #[.int .i64 0, .int .i64 0, .int .i64 0, .slice none 0 0, .int .i64 0, .int .i64 0, .int .i64 0, .int .i64 0, .int .i64 0, .int .i64 0, .int .i64 0, .string (⟨#[]⟩ : ByteArray), .string (⟨#[]⟩ : ByteArray)]) ?_ 0 _ rfl; (with_reducible repeat (first | refine blk_drewN ?_ _ | refine blk_drew ?_ | refine blk_alloc ?_ _)); refine blk_far ?_ NB386_385.out _; (with_reducible repeat (first | refine blk_drewN ?_ _ | refine blk_drew ?_ | refine blk_alloc ?_ _)); exact BK386.out) Try.underlying32 rfl (by kernel_rfl)) rfl ?_
  exact ⟨_, by first | rfl | (simp [errW_none, errW_some] <;> rfl) | (simp [*, errW_none, errW_some] <;> rfl), by (with_reducible repeat (first | apply Kd.R_alloc | apply Kd.R_drewN | apply Kd.R_drew)); exact Kd.R_mono (Kd.R_far (p := ⟨gb386, 12, none⟩) (Kd.R_far (p := ⟨gb386, 11, none⟩) (Kd.R_far (p := ⟨gb386, 10, none⟩) (Kd.R_far (p := ⟨gb386, 9, none⟩) (Kd.R_far (p := ⟨gb386, 8, none⟩) (Kd.R_far (p := ⟨gb386, 7, none⟩) (Kd.R_far (p := ⟨gb386, 6, none⟩) (Kd.R_far (p := ⟨gb386, 5, none⟩) (Kd.R_far (p := ⟨gb386, 4, none⟩) (Kd.R_far (p := ⟨gb386, 3, none⟩) (Kd.R_far (p := ⟨gb386, 2, none⟩) (Kd.R_far (p := ⟨gb386, 1, none⟩) (Kd.R_far (p := ⟨gb386, 0, none⟩) (Kd.R_far (p := ⟨gb385, 3, none⟩) (Kd.R_types (Kd.R_types HO392.out BK385.out (by decide)) BK386.out (by decide)) (fun _ hk => hk.1.2) (.slice Ao10 y390.length co10)) (fun _ hk => hk.2) (.int .i64 a0_0)) (fun _ hk => hk.2) (.int .i64 a0_1)) (fun _ hk => hk.2) (.int .i64 a0_2)) (fun _ hk => hk.2) (.slice Ao10 y390.length co10)) (fun _ hk => hk.2) (.int .i64 a0_4)) (fun _ hk => hk.2) (.int .i64 a0_5)) (fun _ hk => hk.2) (.int .i64 a0_6)) (fun _ hk => hk.2) (.int .i64 a0_7)) (fun _ hk => hk.2) (.int .i64 a0_8)) (fun _ hk => hk.2) (.int .i64 a0_9)) (fun _ hk => hk.2) (.int .i64 a0_10)) (fun _ hk => hk.2) (.string a0_11)) (fun _ hk => hk.2) (.string a0_12)) (fun _ hk => trivial), by repeat (first | (with_reducible first | exact HB.out | apply below_alloc | apply pw_below_drewN | apply below_drew1 | refine below_set ?_ GE385.out | refine below_set ?_ GE386.out) | exact HB.out)⟩
 ·rw [if_neg c2] at H
  exact absurd H (by simp)
theorem copy_is (y : S32) (h : y.f2.length ≤ 64) : change_Copy.f y.f0.f0 y.f0.f1 y.f1 y.f2 y.f3 y.f4.f0 y.f4.f1 y.f5.f0 y.f5.f1 y.f6.f0 y.f6.f1 y.f7 y.f8 = some (y.f0.f0, y.f0.f1, y.f1, y.f2, y.f3, y.f4.f0, y.f4.f1, y.f5.f0, y.f5.f1, y.f6.f0, y.f6.f1, y.f7, y.f8) := by
 unfold change_Copy.f
 rw [Option.bind_some, if_pos (by simp only [List.length_nil]; omega), List.nil_append]
set_option maxHeartbeats 8000000 in
set_option maxRecDepth 100000 in
theorem held_calls {w : World} {base : Nat} {P : Nat → Prop} {g : Nat} {room : Int} {l : List S32} (hB : BufI w base P g room l) (hn : l.length < 1000) (hl64 : ∀ y ∈ l, y.f2.length ≤ 64) :
  Calls Try.prog 22 #[.pointer (some ⟨g, 0, none⟩)] w fun e w' => ∃ v', e = .returned v' ∧ Kd.S k32 32 w' w.heap.size (fun k => w.heap.size ≤ k) v' l ∧ Below w.heap.size w w' := by
 obtain ⟨mb, es, cc, A, ch, hO⟩ := hB.opened
 have HO := Aside0.mk hO
 have HN := Aside0.mk hn
 have H64 := Aside0.mk hl64
 have q1 : w.cell? ⟨g, 1, none⟩ = some (.slice A l.length ch) := (blk_cell hO.blk 1).trans rfl
 clear hB hO hn hl64
 go_enter Try.func22, Try.ntmps22
 go_wp2_with (fail)
 go_loopw [3, 13] (fun v3 v13 wq => ∃ (i : Nat) (ov : Value), v13 = .int .i64 (i : Int) ∧ ov = v3 ∧ Aside0 (i ≤ l.length) ∧ Aside0 (Kd.S k32 32 wq w.heap.size (fun k => w.heap.size ≤ k) ov (l.take i)) ∧ Aside0 (Below w.heap.size w wq)) (fun _ v13 _ => l.length - (intOf v13).toNat)
 case atStart => exact ⟨0, _, rfl, rfl, ⟨Nat.zero_le _⟩, ⟨Kd.S_nil _ _ _ _ _⟩, ⟨Below.refl _ _⟩⟩
 case round =>
  clear q1
  obtain ⟨i, ov, rfl, rfl, HI, HS, HBq⟩ := hrel
  by_cases hi : i < l.length
  case neg =>
   have e1 : decide (i < l.length) = false := decide_eq_false hi
   have ht : l.take i = l := List.take_of_length_le (by omega)
   rw [ht] at HS
   clear ht hi
   go_wp2_with (fail)
   go_ret
   exact ⟨ov, rfl, HS.out, HBq.out⟩
  have HI' := Aside0.mk hi
  obtain ⟨gr, cap, hform, hbgr, hgrw, cells, hgr⟩ := Kd.S_form HO.out.row (by omega)
  injection hform with hA _ hch
  subst hA; subst hch
  obtain ⟨c', hcl, hM, hcc, hfr⟩ := Kd.R_elem (Kd.S_R HO.out.row) z32 (i : Int) (by omega) (by omega)
  rw [Int.toNat_natCast] at hcc
  obtain ⟨v, rfl, hv⟩ := chM hM
  have hv2 : (Kd.int .i64).R 3 w base _ v (rd_T32 l (i : Int)).f2 := hv
  have hcc2 : ∀ j u, (chL (rd_T32 l (i : Int)) v)[j]? = some u → w.cell? ⟨gr, i * 13 + j, none⟩ = some u := hcc
  have hy : rd_T32 l (i : Int) ∈ l := List.mem_of_getElem? (rd32_at hi)
  have htk : l.take (i + 1) = l.take i ++ [rd_T32 l (i : Int)] := by
   rw [List.take_add_one, rd32_at hi]
   rfl
  obtain ⟨y, hyy⟩ : ∃ y, rd_T32 l (i : Int) = y := ⟨_, rfl⟩
  rw [hyy] at hv2 hcc2 hy htk
  clear hv hcc hM hcl hfr
  obtain ⟨Ae, ce, rfl, hle, hCe⟩ := Kd.R_reads hv2
  have HTK := Aside0.mk htk
  have HCC := Aside0.mk hcc2
  have HCE := Aside0.mk (Kd.C_below hCe HBq.out)
  have HLE := Aside0.mk hle
  have HCP := Aside0.mk (copy_is y (H64.out y hy))
  have HGRW := Aside0.mk hgrw
  have b1 : (0 ≤ (i : Int)) = True := eq_true (by omega)
  have b2 : ((i : Int) < (l.length : Int)) = True := eq_true (by omega)
  have b3 : (i < l.length) = True := eq_true hi
  have b4 : decide (i < l.length) = true := decide_eq_true hi
  clear hyy hcc2 hCe hle hgrw hgr hbgr hv2 hy hi htk
  go_wp2_with (first | ((with_reducible refine gate_dst (N := 16) rfl ?_); refine load32_ev rfl (N := 16) rfl y (.slice Ae y.f2.length ce) (p := .tmp 15) rfl (ad := ⟨gr, i * 13, none⟩) rfl (fun j u hj => by rw [add_at]; exact (HBq.out.cell (p := ⟨gr, i * 13 + j, none⟩) HGRW.out).trans (HCC.out j u hj)) ?_) | ((with_reducible refine gate_dst (N := 5) rfl ?_); refine box_event ?hg (N := 5) ?hd (cs := #[.int .i64 0, .int .i64 0, .int .i64 0, .slice none 0 0, .int .i64 0, .int .i64 0, .int .i64 0, .int .i64 0, .int .i64 0, .int .i64 0, .int .i64 0, .string ⟨#[]⟩, .string ⟨#[]⟩]) (t := 32) ?hr ?_; (case hd => rfl); (case hg => rfl); (case hr => first | (go_simp; done) | (go_simp; rfl)); intro gc hr_ wa hbox hb; have HXgc := Aside0.mk hbox; have HBgc := Aside0.mk hb; have HNgc := Aside0.mk (Nat.le_of_eq hr_.symm); clear hbox hb hr_) | ((with_reducible refine gate_store (t := 32) (p := 5) (v := .tmp 16) rfl ?_); refine store32_ev rfl rfl y (.slice Ae y.f2.length ce) (p := .tmp 5) (q := .tmp 16) rfl (g := gc) rfl rfl rfl HXgc.out rfl ?_; intro wb hb_ hg_; have HSgc := Aside0.mk hb_; have HGgc := Aside0.mk hg_; clear hb_ hg_; have HBqb := Aside0.mk (HBgc.out.grown HGgc.out HBgc.out.size (fun k hk => by injection hk with hk; rw [← hk]; exact HNgc.out)); have HBb := Aside0.mk (HBq.out.trans (HBqb.out.mono HBq.out.size))) | ((with_reducible refine gate_dst (N := 18) rfl ?_); refine load32_ev rfl (N := 18) rfl y (.slice Ae y.f2.length ce) (p := .tmp 5) rfl (ad := ⟨gc, 0, none⟩) rfl (blk_cells HSgc.out) ?_) | (go_at_call 39; (with_reducible refine (change_Copy.calls y.f0.f0 y.f0.f1 y.f1 Ae ce y.f2 y.f3 y.f4.f0 y.f4.f1 y.f5.f0 y.f5.f1 y.f6.f0 y.f6.f1 y.f7 y.f8 y.f0.f0 y.f0.f1 y.f1 y.f2 y.f3 y.f4.f0 y.f4.f1 y.f5.f0 y.f5.f1 y.f6.f0 y.f6.f1 y.f7 y.f8 _ ?s3 ?s4 HCP.out).mono ?_); (case s3 => exact Kd.C_below HCE.out HBqb.out); (case s4 => exact HLE.out); rintro e we ⟨v1e, rfl, hv1, hbc⟩; have HV1 := Aside0.mk (Kd.R_mono (Kd.R_bound hv1) (ok' := fun k => wb.heap.size ≤ k ∧ k < we.heap.size) (fun k hk => ⟨hk.2.1, hk.2.2.1⟩)); have HBC := Aside0.mk hbc; have HBE := Aside0.mk (HBb.out.trans (hbc.mono HBb.out.size)); have HROWS := Aside0.mk (Kd.S_below (Kd.S_mono (Kd.S_bound (Kd.S_below HS.out HBqb.out)) (ok' := fun k => w.heap.size ≤ k ∧ ¬ (wb.heap.size ≤ k ∧ k < we.heap.size)) (fun k hk => ⟨hk.1, fun h => Nat.lt_irrefl _ (Nat.lt_of_lt_of_le hk.2.2.1 h.1)⟩)) hbc); clear hv1 hbc) | ((with_reducible refine gate_builtin (b := .append) (xs := #[.tmp 17, .tmp 20]) rfl ?_); at_builtin; refine Kd.S_append k32 (w0 := w) w.heap.size rfl (.tmp 17) (.tmp 20) 22 32 (.agg #[.int .i64 0, .int .i64 0, .int .i64 0, .slice none 0 0, .int .i64 0, .int .i64 0, .int .i64 0, .int .i64 0, .int .i64 0, .int .i64 0, .int .i64 0, .string ⟨#[]⟩, .string ⟨#[]⟩]) 136 rfl Try.underlying22 info32 rfl (by decide) (by omega) ov (l.take i) y (chL y v1e) (fun k => w.heap.size ≤ k) (fun k => wb.heap.size ≤ k ∧ k < we.heap.size) rfl rfl (chMk (Kd.R_lower HV1.out HBb.out.size)) ?hokp (fun k hk => Nat.le_trans HBE.out.size hk) HROWS.out HBE.out HBE.out.size ?hl ?_; (case hokp => exact fun k hk => ⟨Nat.le_trans HBb.out.size hk.1, fun e => by have h1_ := Kd.S_lt (Kd.S_below HS.out HBqb.out) k e.symm; omega⟩); (case hl => have h1_ := HN.out; have h2_ := List.length_take_le i l; have h3_ := HI'.out; omega); intro v8 wf hs8 hb8 hg8 hat8; have HS8 := Aside0.mk hs8; have HB8 := Aside0.mk hb8; clear hs8 hb8 hg8 hat8))
  have hiw : i < 100000 := by have h1_ := HI'.out; have h2_ := HN.out; omega
  rw [Go.Proofs.Ytnopjjilpgekfaa.PCa.w1 hiw]
  exact ⟨⟨i + 1, v8, rfl, rfl, ⟨HI'.out⟩, ⟨by rw [HTK.out]; exact HS8.out⟩, ⟨HB8.out⟩⟩, dec_lt HI'.out⟩
def stab.T8 : Bool × List (List Nat × List Nat) := (true, [([], []), ([0], [0]), ([], []), ([], []), ([3], [3]), ([4], [4]), ([2, 5], [2, 5]), ([1, 6], [1, 6])])
def stab.B8 : List Nat := [0, 1, 0, 0, 8, 24, 60, 127]
theorem stab.tab8 : rtab .any (opsOf Try.f26 8) = stab.T8 := by kernel_rfl
theorem stab.bits8 : waitsOk stab.T8.2 stab.B8 = true := by kernel_rfl
/-- What stays of a list behind the place j. -/
def keepF (known : List Int) (l : List S32) (j : Nat) : List S32 := l.take j ++ (l.drop j).filter (fun x => !withinX known x)
theorem keepF_all (known : List Int) (l : List S32) : keepF known l l.length = l := by
 unfold keepF
 rw [List.take_length, List.drop_length, List.filter_nil, List.append_nil]
theorem keepF_yes {known : List Int} {l : List S32} {i : Nat} (hi : i < l.length) (h : withinX known (rd_T32 l (i : Int)) = false) : keepF known l i = keepF known l (i + 1) := by
 unfold keepF
 rw [rd32_drop hi, List.filter_cons_of_pos (by rw [h]; rfl), List.take_add_one, rd32_at hi, List.append_assoc]
 rfl
theorem keepF_no {known : List Int} {l : List S32} {i : Nat} (hi : i < l.length) (h : withinX known (rd_T32 l (i : Int)) = true) : keepF known l i = (keepF known l (i + 1)).eraseIdx i := by
 unfold keepF
 rw [rd32_drop hi, List.filter_cons_of_neg (by rw [h]; decide), List.take_add_one, rd32_at hi, List.append_assoc]
 have hl : (l.take i).length = i := by rw [List.length_take]; omega
 rw [List.eraseIdx_append_of_length_le (by omega), hl, Nat.sub_self]
 rfl
theorem keepF_len {known : List Int} {l : List S32} {j : Nat} (hj : j ≤ l.length) : j ≤ (keepF known l j).length ∧ (keepF known l j).length ≤ l.length := by
 unfold keepF
 rw [List.length_append, List.length_take]
 have := List.length_filter_le (fun x => !withinX known x) (l.drop j)
 rw [List.length_drop] at this
 omega
theorem keepF_rd {known : List Int} {l : List S32} {i : Nat} (hi : i < l.length) : rd_T32 (keepF known l (i + 1)) (i : Int) = rd_T32 l (i : Int) := by
 have h1 : (keepF known l (i + 1))[i]? = l[i]? := by
  unfold keepF
  rw [List.getElem?_append_left (by rw [List.length_take]; omega), List.getElem?_take, if_pos (Nat.lt_succ_self i)]
 unfold rd_T32
 rw [Int.toNat_natCast, List.getD_eq_getElem?_getD, List.getD_eq_getElem?_getD, h1]
theorem dec_pred (i : Nat) : (intOf (Value.int .i64 ((i : Int) - 1)) + 1).toNat < (intOf (Value.int .i64 (i : Int)) + 1).toNat := by
 show ((i : Int) - 1 + 1).toNat < ((i : Int) + 1).toNat
 omega
theorem pred_cast (i : Nat) : (((i + 1 : Nat) : Int) - 1) = (i : Int) := by omega
set_option maxHeartbeats 8000000 in
set_option maxRecDepth 100000 in
theorem stale_calls {w : World} {base b2 : Nat} {P K : Nat → Prop} {g : Nat} {room : Int} {l : List S32} (hB : BufI w base P g room l) (hn : l.length < 1000) (Ak : Option Addr) (ck : Nat) (known : List Int) (hk : (Kd.int .i64).R 3 w b2 K (.slice Ak known.length ck) known) (hKP : ∀ k, K k → ¬ P k) :
  Calls Try.prog 26 #[.pointer (some ⟨g, 0, none⟩), .slice Ak known.length ck] w fun e w' => ∃ (P' : Nat → Prop), e = .returned (.int .i64 (if chkC known = 0 then (l.length : Int) - ((l.filter (fun x => !withinX known x)).length : Int) else 0)) ∧ BufI w' base P' g room (if chkC known = 0 then l.filter (fun x => !withinX known x) else l) ∧ (∀ k, P' k → P k) ∧ Kept w w' P := by
 have HBUF := Aside0.mk hB
 have HN := Aside0.mk hn
 have HK := Aside0.mk hk
 have HKP := Aside0.mk hKP
 have HKC := Aside0.mk (Kd.R_reads' hk).2.1
 have HCK := Aside0.mk (clock_Check_is known 66 (by decide))
 clear hB hn hk hKP
 by_cases hc : chkC known = 0
 case neg =>
  rw [if_neg hc, if_neg hc]
  generalize chkC known = cc at *
  have e1 : (cc != 0) = true := by rw [bne_iff_ne]; exact hc
  clear hc
  go_enter Try.func26, Try.ntmps26
  go_wp2_with (first | (go_at_call 33; (with_reducible refine (clock_Check.calls 66 Ak ck known _ _ (Kd.R_reads' HK.out).2.2 HKC.out HCK.out).mono ?_); rintro e w5 ⟨rfl, ⟨nd, rfl⟩⟩; have HB1 := Aside0.mk (pw_below_drewN (Below.refl w.heap.size w) nd)))
  go_ret
  exact ⟨P, rfl, HBUF.out.below HB1.out, fun _ h => h, Kept.of_below HB1.out _⟩
 rw [if_pos hc, if_pos hc]
 rw [hc] at HCK
 clear hc
 go_enter Try.func26, Try.ntmps26
 go_wp2_with (fail)
 refine (clock_Check.calls 66 Ak ck known _ _ (Kd.R_reads' HK.out).2.2 HKC.out HCK.out).mono ?_
 rintro e ws ⟨rfl, ⟨nd, hws⟩⟩
 have HB1 := Aside0.mk (show Below w.heap.size w ws by rw [hws]; exact pw_below_drewN (Below.refl w.heap.size w) nd)
 clear hws
 have hlen0 : ∃ mb es cc A ch, BufO w base P g room l mb es cc A ch := HBUF.out.opened
 obtain ⟨mb, es, cc, A, ch, hO⟩ := hlen0
 have q1 : ws.cell? ⟨g, 1, none⟩ = some (.slice A l.length ch) := (blk_cell (blk_below hO.blk HB1.out) 1).trans rfl
 clear hO
 have hwl : IntKind.i64.wrap ((l.length : Int) - 1) = (l.length : Int) - 1 := by rw [IntKind.wrap_i64]; have h_ := HN.out; omega
 go_wp2_with (fail)
 go_loopw [5, 6] (fun v5 v6 wq => ∃ (j : Nat) (P' : Nat → Prop), v6 = .int .i64 ((j : Int) - 1) ∧ v5 = .int .i64 ((l.length : Int) - ((keepF known l j).length : Int)) ∧ Aside0 (j ≤ l.length) ∧ Aside0 (BufI wq base P' g room (keepF known l j)) ∧ Aside0 (∀ k, P' k → P k) ∧ Aside0 (Kept w wq P)) (fun _ v6 _ => (intOf v6 + 1).toNat)
 case atStart => exact ⟨l.length, P, rfl, by rw [keepF_all, Int.sub_self], ⟨Nat.le_refl _⟩, ⟨by rw [keepF_all]; exact HBUF.out.below HB1.out⟩, ⟨fun _ h => h⟩, ⟨Kept.of_below HB1.out _⟩⟩
 case round =>
  clear q1 hwl
  obtain ⟨j, P', rfl, rfl, HJ, HBq, HP, HKq⟩ := hrel
  cases j with
  | zero =>
   have e1 : decide (0 ≤ ((0 : Nat) : Int) - 1) = false := by decide
   have e2 : decide (((0 : Nat) : Int) - 1 ≥ 0) = false := by decide
   go_wp2_with (fail)
   go_ret
   exact ⟨P', rfl, HBq.out, HP.out, HKq.out⟩
  | succ i =>
   rw [pred_cast i]
   have e1 : decide ((i : Int) ≥ 0) = true := decide_eq_true (by omega)
   have e2 : decide (0 ≤ (i : Int)) = true := decide_eq_true (by omega)
   obtain ⟨wo, rfl⟩ : ∃ wo, wo = wr := ⟨wr, rfl⟩
   have hil : i < l.length := HJ.out
   have hkl := keepF_len (known := known) (l := l) HJ.out
   obtain ⟨mb, es, cc, A, ch, hO⟩ := HBq.out.opened
   obtain ⟨gr, cap, hform, hbgr, hgrw, cells, hgr⟩ := Kd.S_form hO.row (by omega)
   injection hform with hA _ hch
   subst hA; subst hch
   have HO := Aside0.mk hO
   obtain ⟨c', hcl, hM, hcc, hfr⟩ := Kd.R_elem (Kd.S_R hO.row) z32 (i : Int) (by omega) (by omega)
   rw [Int.toNat_natCast] at hcc
   obtain ⟨v, rfl, hv⟩ := chM hM
   have hv2 : (Kd.int .i64).R 3 wo base _ v (rd_T32 (keepF known l (i + 1)) (i : Int)).f2 := hv
   have hcc2 : ∀ j u, (chL (rd_T32 (keepF known l (i + 1)) (i : Int)) v)[j]? = some u → wo.cell? ⟨gr, i * 13 + j, none⟩ = some u := hcc
   have hrd := keepF_rd (known := known) hil
   obtain ⟨y, hyy⟩ : ∃ y, rd_T32 (keepF known l (i + 1)) (i : Int) = y := ⟨_, rfl⟩
   rw [hyy] at hv2 hcc2 hrd
   clear hv hcc hM hcl hfr
   obtain ⟨Ae, ce, rfl, hle, hCe⟩ := Kd.R_reads hv2
   have q1 : wo.cell? ⟨g, 1, none⟩ = some (.slice (some ⟨gr, 0, none⟩) (keepF known l (i + 1)).length ch) := (blk_cell hO.blk 1).trans rfl
   have HCC := Aside0.mk hcc2
   have HRD := Aside0.mk hrd
   have HIL := Aside0.mk hil
   have HKL := Aside0.mk hkl
   have HGRW := Aside0.mk hgrw
   have HKw := Aside0.mk (Kd.R_kept HK.out HKq.out HKP.out)
   have b1 : (0 ≤ (i : Int)) = True := eq_true (by omega)
   have b2 : ((i : Int) < ((keepF known l (i + 1)).length : Int)) = True := eq_true (by omega)
   have b3 : (i < (keepF known l (i + 1)).length) = True := eq_true (by omega)
   clear hO hil hkl hcc2 hrd hgrw hgr hbgr hv2 hle hCe hyy
   generalize hKF : keepF known l (i + 1) = L at *
   have HKF := Aside0.mk hKF
   clear hKF
   have HNL : Aside0 (L.length < 1000) := ⟨by have h1_ := HKL.out.2; have h2_ := HN.out; omega⟩
   have hwi : wrap64 ((i : Int) - 1) = (i : Int) - 1 := by rw [← i64_w, IntKind.wrap_i64]; have h1_ := HIL.out; have h2_ := HN.out; omega
   have HWI := Aside0.mk hwi
   clear hwi
   obtain ⟨at_, hat_⟩ : ∃ a, atC known y.f0.f1 = a := ⟨_, rfl⟩
   have HAT := Aside0.mk (clock_At_is known y.f0.f1)
   rw [hat_] at HAT
   have hwx : withinX known y = decide (y.f1 ≤ at_) := by unfold withinX; rw [hat_]
   clear hat_
   by_cases hle : y.f1 ≤ at_
   ·have d1 : decide (y.f1 ≤ at_) = true := decide_eq_true hle
    have HW := Aside0.mk (hwx.trans d1)
    clear hwx hle
    go_wp2_with (first | ((with_reducible refine gate_dst (N := 31) rfl ?_); refine load32_ev rfl (N := 31) rfl y (.slice Ae y.f2.length ce) (p := .tmp 30) rfl (ad := ⟨gr, i * 13, none⟩) rfl (fun j u hj => by rw [add_at]; exact HCC.out j u hj) ?_) | ((with_reducible refine gate_dst (N := 7) rfl ?_); refine box_event ?hg (N := 7) ?hd (cs := #[.int .i64 0, .int .i64 0, .int .i64 0, .slice none 0 0, .int .i64 0, .int .i64 0, .int .i64 0, .int .i64 0, .int .i64 0, .int .i64 0, .int .i64 0, .string ⟨#[]⟩, .string ⟨#[]⟩]) (t := 32) ?hr ?_; (case hd => rfl); (case hg => rfl); (case hr => first | (go_simp; done) | (go_simp; rfl)); intro gc hr_ wa hbox hb; have HXgc := Aside0.mk hbox; have HBgc := Aside0.mk hb; have HNgc := Aside0.mk (Nat.le_of_eq hr_.symm); clear hbox hb hr_) | ((with_reducible refine gate_store (t := 32) (p := 7) (v := .tmp 31) rfl ?_); refine store32_ev rfl rfl y (.slice Ae y.f2.length ce) (p := .tmp 7) (q := .tmp 31) rfl (g := gc) rfl rfl rfl HXgc.out rfl ?_; intro wb hb_ hg_; have HSgc := Aside0.mk hb_; have HGgc := Aside0.mk hg_; clear hb_ hg_; have HBb := Aside0.mk (HBgc.out.grown HGgc.out HBgc.out.size (fun k hk => by injection hk with hk; rw [← hk]; exact HNgc.out))))
    refine start_ (n := 8) (S := (fun w' => w'.cell? ⟨gc, 2, none⟩ = some (.int .i64 y.f1) ∧ w'.cell? ⟨gc, 1, none⟩ = some (.int .i64 y.f0.f1))) (ds := []) #[false, false, false, false, false, false, false, false] (by kernel_rfl) rfl rfl (⟨(blk_cell HSgc.out 2).trans rfl, (blk_cell HSgc.out 1).trans rfl⟩) (fun hHeld => ?_)
    refine with_tabW stab.tab8 stab.bits8 (fun HT_ HW_ => ?_)
    refine pureS (i := 0) (N := (some 32)) #[true, false, false, false, false, false, false, false] HT_ ?_
    refine pureS (i := 2) (N := (some 34)) #[true, false, true, false, false, false, false, false] HT_ ?_
    refine pureS (i := 3) (N := (some 35)) #[true, false, true, true, false, false, false, false] HT_ ?_
    refine pureS (i := 4) (N := (some 36)) #[true, false, true, true, true, false, false, false] HT_ ?_
    refine take_ (i := 1) (N := (some 33)) (v := ?_) (a' := ?_) #[true, true, true, true, true, false, false, false] rfl rfl (take_ofW HT_.out HW_.out (by kernel_rfl)) (fun _ _ _ h => h) (Or.inl ⟨by rfl, ?_⟩) hHeld ?_ ?_
    rotate_left
    ·rintro w' ⟨s0, s1⟩
     go_simp
     with_reducible rfl
    rotate_left
    ·simp only [Act.put, List.setIfInBounds_toArray, List.set_cons_zero, List.set_cons_succ, i64_w, i32_w]
     rfl
    refine take_ (i := 5) (N := (some 37)) (v := ?_) (a' := ?_) #[true, true, true, true, true, true, false, false] rfl rfl (take_ofW HT_.out HW_.out (by kernel_rfl)) (fun _ _ _ h => h) (Or.inl ⟨by rfl, ?_⟩) hHeld ?_ ?_
    rotate_left
    ·rintro w' ⟨s0, s1⟩
     go_simp
     with_reducible rfl
    rotate_left
    ·simp only [Act.put, List.setIfInBounds_toArray, List.set_cons_zero, List.set_cons_succ, i64_w, i32_w]
     rfl
    refine one_ (i := 6) (N := (some 38)) #[true, true, true, true, true, true, true, false] rfl rfl (one_of HT_.out (by kernel_rfl)) (by decide) (fun K hK => ?_)
    refine goes_ Try.func35 (by kernel_rfl) rfl #[.slice Ak known.length ck, .int .i64 y.f0.f1] (by rfl) rfl rfl (by (try simp only [List.map_toArray, List.map_cons, List.map_nil]); first | done | rfl) ?_
    refine (clock_At.calls Ak ck known y.f0.f1 _ _ (Kd.C_drew (Kd.C_below (Kd.R_reads' HKw.out).2.2 HBb.out)) HKC.out HAT.out).mono ?_
    rintro e w5 ⟨rfl, ⟨nd2, rfl⟩⟩
    refine ⟨_, rfl, ?_⟩
    refine hK.out _ _ (⟨hHeld.1, hHeld.2⟩) (fun hHeld => ?_)
    clear hK K
    refine norm_ (a' := ?_) ?_ ?_
    rotate_left
    ·show Act.put _ (some 38) _ = _
     simp only [Act.put, List.setIfInBounds_toArray, List.set_cons_zero, List.set_cons_succ, i64_w, i32_w]
     rfl
    refine pureS (i := 7) (N := (some 39)) #[true, true, true, true, true, true, true, true] HT_ ?_
    refine done_ (done_of HT_.out (by kernel_rfl)) ?_
    have hHN : wrap64 ((l.length : Int) - (L.length : Int) + 1) = (l.length : Int) - ((L.length - 1 : Nat) : Int) := by
     have h1_ := HKL.out; have h2_ := HN.out
     rw [← i64_w, IntKind.wrap_i64]
     omega
    have HHN := Aside0.mk hHN
    clear hHN
    go_wp2_with (fail)
    refine (take_calls ((HBq.out.below HBb.out).below (pw_below_drewN (Below.refl wb.heap.size wb) (1 + nd2))) i (of_eq_true b3) (by have h1_ := HNL.out; omega)).mono ?_
    rintro e we ⟨O1, v1e, rfl, hv1, hO1P, hbuf, hkp⟩
    have HBUF1 := Aside0.mk hbuf
    have HKP1 := Aside0.mk hkp
    clear hv1 hO1P hbuf hkp
    go_wp2_with (fail)
    have hno := keepF_no (known := known) HIL.out (by rw [← HRD.out]; exact HW.out)
    rw [HKF.out] at hno
    have hbl : i < L.length := of_eq_true b3
    rw [HWI.out, HHN.out]
    refine ⟨⟨i, fun k => P' k ∧ ¬ O1 k, rfl, by rw [hno, List.length_eraseIdx_of_lt hbl], ⟨Nat.le_of_lt HIL.out⟩, ⟨by rw [hno]; exact HBUF1.out⟩, ⟨fun k hk => HP.out k hk.1⟩, ⟨?_⟩⟩, dec_pred i⟩
    exact ((HKq.out.below HBb.out).below (pw_below_drewN (Below.refl wb.heap.size wb) (1 + nd2))).then_ HKP1.out (fun k hk => .inl (HP.out k hk))
   ·have d1 : decide (y.f1 ≤ at_) = false := decide_eq_false hle
    have HW := Aside0.mk (hwx.trans d1)
    clear hwx hle
    go_wp2_with (first | ((with_reducible refine gate_dst (N := 31) rfl ?_); refine load32_ev rfl (N := 31) rfl y (.slice Ae y.f2.length ce) (p := .tmp 30) rfl (ad := ⟨gr, i * 13, none⟩) rfl (fun j u hj => by rw [add_at]; exact HCC.out j u hj) ?_) | ((with_reducible refine gate_dst (N := 7) rfl ?_); refine box_event ?hg (N := 7) ?hd (cs := #[.int .i64 0, .int .i64 0, .int .i64 0, .slice none 0 0, .int .i64 0, .int .i64 0, .int .i64 0, .int .i64 0, .int .i64 0, .int .i64 0, .int .i64 0, .string ⟨#[]⟩, .string ⟨#[]⟩]) (t := 32) ?hr ?_; (case hd => rfl); (case hg => rfl); (case hr => first | (go_simp; done) | (go_simp; rfl)); intro gc hr_ wa hbox hb; have HXgc := Aside0.mk hbox; have HBgc := Aside0.mk hb; have HNgc := Aside0.mk (Nat.le_of_eq hr_.symm); clear hbox hb hr_) | ((with_reducible refine gate_store (t := 32) (p := 7) (v := .tmp 31) rfl ?_); refine store32_ev rfl rfl y (.slice Ae y.f2.length ce) (p := .tmp 7) (q := .tmp 31) rfl (g := gc) rfl rfl rfl HXgc.out rfl ?_; intro wb hb_ hg_; have HSgc := Aside0.mk hb_; have HGgc := Aside0.mk hg_; clear hb_ hg_; have HBb := Aside0.mk (HBgc.out.grown HGgc.out HBgc.out.size (fun k hk => by injection hk with hk; rw [← hk]; exact HNgc.out))))
    refine start_ (n := 8) (S := (fun w' => w'.cell? ⟨gc, 2, none⟩ = some (.int .i64 y.f1) ∧ w'.cell? ⟨gc, 1, none⟩ = some (.int .i64 y.f0.f1))) (ds := []) #[false, false, false, false, false, false, false, false] (by kernel_rfl) rfl rfl (⟨(blk_cell HSgc.out 2).trans rfl, (blk_cell HSgc.out 1).trans rfl⟩) (fun hHeld => ?_)
    refine with_tabW stab.tab8 stab.bits8 (fun HT_ HW_ => ?_)
    refine pureS (i := 0) (N := (some 32)) #[true, false, false, false, false, false, false, false] HT_ ?_
    refine pureS (i := 2) (N := (some 34)) #[true, false, true, false, false, false, false, false] HT_ ?_
    refine pureS (i := 3) (N := (some 35)) #[true, false, true, true, false, false, false, false] HT_ ?_
    refine pureS (i := 4) (N := (some 36)) #[true, false, true, true, true, false, false, false] HT_ ?_
    refine take_ (i := 1) (N := (some 33)) (v := ?_) (a' := ?_) #[true, true, true, true, true, false, false, false] rfl rfl (take_ofW HT_.out HW_.out (by kernel_rfl)) (fun _ _ _ h => h) (Or.inl ⟨by rfl, ?_⟩) hHeld ?_ ?_
    rotate_left
    ·rintro w' ⟨s0, s1⟩
     go_simp
     with_reducible rfl
    rotate_left
    ·simp only [Act.put, List.setIfInBounds_toArray, List.set_cons_zero, List.set_cons_succ, i64_w, i32_w]
     rfl
    refine take_ (i := 5) (N := (some 37)) (v := ?_) (a' := ?_) #[true, true, true, true, true, true, false, false] rfl rfl (take_ofW HT_.out HW_.out (by kernel_rfl)) (fun _ _ _ h => h) (Or.inl ⟨by rfl, ?_⟩) hHeld ?_ ?_
    rotate_left
    ·rintro w' ⟨s0, s1⟩
     go_simp
     with_reducible rfl
    rotate_left
    ·simp only [Act.put, List.setIfInBounds_toArray, List.set_cons_zero, List.set_cons_succ, i64_w, i32_w]
     rfl
    refine one_ (i := 6) (N := (some 38)) #[true, true, true, true, true, true, true, false] rfl rfl (one_of HT_.out (by kernel_rfl)) (by decide) (fun K hK => ?_)
    refine goes_ Try.func35 (by kernel_rfl) rfl #[.slice Ak known.length ck, .int .i64 y.f0.f1] (by rfl) rfl rfl (by (try simp only [List.map_toArray, List.map_cons, List.map_nil]); first | done | rfl) ?_
    refine (clock_At.calls Ak ck known y.f0.f1 _ _ (Kd.C_drew (Kd.C_below (Kd.R_reads' HKw.out).2.2 HBb.out)) HKC.out HAT.out).mono ?_
    rintro e w5 ⟨rfl, ⟨nd2, rfl⟩⟩
    refine ⟨_, rfl, ?_⟩
    refine hK.out _ _ (⟨hHeld.1, hHeld.2⟩) (fun hHeld => ?_)
    clear hK K
    refine norm_ (a' := ?_) ?_ ?_
    rotate_left
    ·show Act.put _ (some 38) _ = _
     simp only [Act.put, List.setIfInBounds_toArray, List.set_cons_zero, List.set_cons_succ, i64_w, i32_w]
     rfl
    refine pureS (i := 7) (N := (some 39)) #[true, true, true, true, true, true, true, true] HT_ ?_
    refine done_ (done_of HT_.out (by kernel_rfl)) ?_
    go_wp2_with (fail)
    have hyes := keepF_yes (known := known) HIL.out (by rw [← HRD.out]; exact HW.out)
    rw [HKF.out] at hyes
    rw [HWI.out]
    refine ⟨⟨i, P', rfl, by rw [hyes], ⟨Nat.le_of_lt HIL.out⟩, ⟨by rw [hyes]; exact (HBq.out.below HBb.out).below (pw_below_drewN (Below.refl wb.heap.size wb) (1 + nd2))⟩, HP, ⟨(HKq.out.below HBb.out).below (pw_below_drewN (Below.refl wb.heap.size wb) (1 + nd2))⟩⟩, dec_pred i⟩
def seaa.T5 : Bool × List (List Nat × List Nat) := (true, [([], []), ([], []), ([], []), ([1, 2], [1, 2]), ([3], [3]), ([], []), ([0, 4, 5], [0, 4, 5]), ([6], [6])])
def seaa.B5 : List Nat := [0, 0, 0, 6, 14, 0, 63, 127]
theorem seaa.tab5 : rtab .any (opsOf Try.f41 5) = seaa.T5 := by kernel_rfl
theorem seaa.bits5 : waitsOk seaa.T5.2 seaa.B5 = true := by kernel_rfl
def seab.T8 : Bool × List (List Nat × List Nat) := (true, [([], []), ([], []), ([], []), ([1, 2], [1, 2]), ([3], [3]), ([4], [4]), ([4], [4]), ([4], [4]), ([6, 7, 4], [4, 6, 7]), ([8, 4], [4, 8]), ([4], [4]), ([5, 9, 10, 4, 4], [4, 5, 9, 10]), ([11, 4], [4, 11]), ([4, 12], [4, 12]), ([0, 11, 0], [0]), ([13, 14, 0, 1, 2, 3, 4, 5, 6, 7, 8, 9, 10, 11, 12, 13, 14], [13])])
def seab.B8 : List Nat := [0, 0, 0, 6, 14, 30, 30, 30, 222, 478, 30, 2046, 4094, 8190, 4095, 32767]
theorem seab.tab8 : rtab .any (opsOf Try.f41 8) = seab.T8 := by kernel_rfl
theorem seab.bits8 : waitsOk seab.T8.2 seab.B8 = true := by kernel_rfl
theorem goesF_ {P : Program} {ops : Array Oper} {Q : Exit → Act → World → Prop} {oi : Oper} {N : Option Tmp} {a : Act} {w : World} {K : Act → World → Prop} {f : FuncId} {fn : Func} {p : Operand} {ar : Array Operand} {ts : Array TypeId} (hf : P.funcs[f]? = some fn) (hname : (fn.name == "runtime.NumGoroutine") = false) (hb : fn.body.isSome = true) (args : Array Value)
  (hw : Region.wanted oi (yielded ops a.tmps) = true) (hN : oi.dst = N) (hop : oi.op = .call { callee := .value p, args := ar, argTypes := ts }) (hp : a.eval p = .func (.func f) #[] #[]) (hargs : ar.map a.eval = args)
  (h : Calls P f args w fun e w' => ∃ v, e = .returned v ∧ K (a.put N v) w') : if Region.wanted oi (yielded ops a.tmps) = true then Oper.wp P oi a w K Q else K (a.put N undef) w := by
 refine call_ f args hw hN ?_ h
 have he := enters_ hf hname hb args w
 unfold execOp
 simp only [hop, resolve, hp]
 simp [Deferred.ofValue, invoke, hargs, he]
theorem count_first {α : Type} (p : α → Bool) : ∀ (l : List α) (i : Nat), i ≤ l.length → (∀ t a, t < i → l[t]? = some a → p a = true) → (∀ t a, i ≤ t → l[t]? = some a → p a = false) → l.countP p = i
 | [], i, hi, _, _ => by simp at hi; simp [hi]
 | a :: r, 0, _, _, h2 => by
  rw [List.countP_eq_zero]
  intro x hx
  obtain ⟨t, ht⟩ := List.mem_iff_getElem?.1 hx
  rw [h2 t x (Nat.zero_le _) ht]
  decide
 | a :: r, i + 1, hi, h1, h2 => by
  rw [List.countP_cons_of_pos (h1 0 a (Nat.succ_pos _) rfl), count_first p r i (by simpa using hi) (fun t b ht hb => h1 (t + 1) b (by omega) hb) (fun t b ht hb => h2 (t + 1) b (by omega) hb)]
def SearchPost (n : Nat) (w : World) (e : Ending) (w' : World) : Prop := ∃ b, e = .returned (.tuple #[.int .i64 (n : Int), .bool b]) ∧ Below w.heap.size w w'
theorem SearchPost.mk {n m : Nat} {w w' : World} {e : Ending} (h : n = m) (b : Bool) (he : e = .returned (.tuple #[.int .i64 (m : Int), .bool b])) (hb : Below w.heap.size w w') : SearchPost n w e w' := ⟨b, by rw [h]; exact he, hb⟩
def cntX (x : S32) (l : List S32) : Nat := l.countP (fun y => decide (cmpX y x < 0))
set_option maxHeartbeats 8000000 in
set_option maxRecDepth 100000 in
theorem search_calls {w : World} {base : Nat} {ok : Nat → Prop} {A : Option Addr} {c0 : Nat} {l : List S32} (hS : Kd.S k32 32 w base ok (.slice A l.length c0) l) (hn : l.length < 1000) (x : S32) (A3 : Option Addr) (c3 : Nat) (hx : Kd.C (Kd.int .i64) w A3 x.f2.length x.f2) (hx3 : x.f2.length ≤ c3)
  (hb : ∀ y ∈ l, 0 ≤ y.f1 ∧ y.f1 ≤ 1099511627776) (hbx : 0 ≤ x.f1 ∧ x.f1 ≤ 1099511627776) (hmono : ∀ a b, a ≤ b → b < l.length → cmpX (rd_T32 l (b : Nat)) x < 0 → cmpX (rd_T32 l (a : Nat)) x < 0) :
  Calls Try.prog 41 #[.slice A l.length c0, (.agg #[.int .i64 x.f0.f0, .int .i64 x.f0.f1, .int .i64 x.f1, (.slice A3 x.f2.length c3), .int .i64 x.f3, .int .i64 x.f4.f0, .int .i64 x.f4.f1, .int .i64 x.f5.f0, .int .i64 x.f5.f1, .int .i64 x.f6.f0, .int .i64 x.f6.f1, .string x.f7, .string x.f8]), .func (.func 42) #[] #[]] w (SearchPost (cntX x l) w) := by
 have HS := Aside0.mk hS
 have HN := Aside0.mk hn
 have HX := Aside0.mk hx
 have HX3 := Aside0.mk hx3
 have HB := Aside0.mk hb
 have HBX := Aside0.mk hbx
 have HM := Aside0.mk hmono
 clear hS hn hx hx3 hb hbx hmono
 go_enter Try.func41, Try.ntmps41
 go_wp2_with (first | ((with_reducible refine gate_dst (N := 4) rfl ?_); refine box_event ?hg (N := 4) ?hd (cs := #[.int .i64 x.f0.f0, .int .i64 x.f0.f1, .int .i64 x.f1, (.slice A3 x.f2.length c3), .int .i64 x.f3, .int .i64 x.f4.f0, .int .i64 x.f4.f1, .int .i64 x.f5.f0, .int .i64 x.f5.f1, .int .i64 x.f6.f0, .int .i64 x.f6.f1, .string x.f7, .string x.f8]) (t := 32) ?hr ?_; (case hd => rfl); (case hg => rfl); (case hr => first | (go_simp; done) | (go_simp; rfl)); intro gb hr_ w0 hbox hb; have HXgb := Aside0.mk hbox; have HBgb := Aside0.mk hb; have HNgb := Aside0.mk (Nat.le_of_eq hr_.symm); clear hbox hb hr_))
 go_loopg [9, 10] l.length (fun kx s9 s10 wr => ∃ lo hi : Nat, s9 = .int .i64 lo ∧ s10 = .int .i64 hi ∧ Aside0 (lo ≤ hi) ∧ Aside0 (hi ≤ l.length) ∧ Aside0 (hi - lo ≤ kx) ∧ Aside0 (Below w0.heap.size w0 wr) ∧
  Aside0 ((∀ t, t < lo → cmpX (rd_T32 l (t : Nat)) x < 0) ∧ (∀ t, hi ≤ t → t < l.length → 0 ≤ cmpX (rd_T32 l (t : Nat)) x)))
 case atStart => exact ⟨0, l.length, rfl, rfl, ⟨Nat.zero_le _⟩, ⟨Nat.le_refl _⟩, ⟨by omega⟩, ⟨Below.refl _ _⟩, ⟨⟨fun t ht => absurd ht (Nat.not_lt_zero _), fun t h1 h2 => by omega⟩⟩⟩
 case round =>
  obtain ⟨lo, hi, rfl, rfl, HLH, HIN, HG, HBL, HI⟩ := hrel
  obtain ⟨wo, rfl⟩ : ∃ wo, wo = wr := ⟨wr, rfl⟩
  by_cases hlt : lo < hi
  ·have hlb := HIN.out
   have hnb := HN.out
   go_wp2_with (fail)
   obtain ⟨m, hm⟩ : ∃ m : Nat, ((lo : Int) + (hi : Int)) / 2 = (m : Int) := ⟨(lo + hi) / 2, by omega⟩
   rw [hm]
   have hm1 : lo ≤ m := by omega
   have hm2 : m < hi := by omega
   have hml : m < l.length := by omega
   obtain ⟨gr, cap, hform, hbgr, hgrw, cells, hgr⟩ := Kd.S_form HS.out (by omega)
   injection hform with hA _ hch
   subst hA; subst hch
   obtain ⟨c', hcl, hM, hcc, hfr⟩ := Kd.R_elem (Kd.S_R HS.out) z32 (m : Int) (by omega) (by omega)
   rw [Int.toNat_natCast] at hcc
   obtain ⟨v, rfl, hv⟩ := chM hM
   have hv2 : (Kd.int .i64).R 3 w base _ v (rd_T32 l (m : Int)).f2 := hv
   have hcc2 : ∀ j u, (chL (rd_T32 l (m : Int)) v)[j]? = some u → w.cell? ⟨gr, m * 13 + j, none⟩ = some u := hcc
   have hy : rd_T32 l (m : Int) ∈ l := List.mem_of_getElem? (rd32_at hml)
   obtain ⟨y, hyy⟩ : ∃ y, rd_T32 l (m : Int) = y := ⟨_, rfl⟩
   rw [hyy] at hv2 hcc2 hy
   clear hv hcc hM hcl hfr
   obtain ⟨Ae, ce, rfl, hle, hCe⟩ := Kd.R_reads hv2
   have hbw : Below w.heap.size w wo.drew := below_drew (HBgb.out.trans (HBL.out.mono HBgb.out.size))
   have HBW := Aside0.mk hbw
   have hS5 : (fun w' => (∀ j u, (chL y (.slice Ae y.f2.length ce))[j]? = some u → w'.cell? ((⟨gr, m * 13, none⟩ : Addr).add j) = some u) ∧ w'.heap[gb]? = some (.cells (chA x (.slice A3 x.f2.length c3)) 32 (0, 0))) wo.drew := ⟨fun j u hj => by rw [add_at]; exact (hbw.cell (p := ⟨gr, m * 13 + j, none⟩) hgrw).trans (hcc2 j u hj), blk_below HXgb.out (below_drew HBL.out)⟩
   have HS5 := Aside0.mk hS5
   have HY := Aside0.mk hyy
   have HCE := Aside0.mk (Kd.C_below hCe hbw)
   have HCX := Aside0.mk (Kd.C_below HX.out hbw)
   have HLE := Aside0.mk hle
   have HCMP := Aside0.mk (compare_is y x (HB.out y hy) HBX.out)
   have HM1 := Aside0.mk hm1
   have HM2 := Aside0.mk hm2
   have HML := Aside0.mk hml
   have b1 : (0 ≤ (m : Int)) = True := eq_true (by omega)
   have b2 : ((m : Int) < (l.length : Int)) = True := eq_true (by omega)
   have b3 : (m < l.length) = True := eq_true hml
   clear hlb hnb hm hm1 hm2 hml hgr hbgr hgrw hv2 hcc2 hy hyy hCe hle hbw hS5 hlt
   obtain ⟨r, hr⟩ : ∃ r, cmpX y x = r := ⟨_, rfl⟩
   rw [hr] at HCMP
   have HRX := Aside0.mk hr
   clear hr
   by_cases hneg : r < 0
   ·have d1 : decide (r < 0) = true := decide_eq_true hneg
    have HNG := Aside0.mk hneg
    clear hneg
    refine start_ (n := 8) (S := (fun w' => (∀ j u, (chL y (.slice Ae y.f2.length ce))[j]? = some u → w'.cell? ((⟨gr, m * 13, none⟩ : Addr).add j) = some u) ∧ w'.heap[gb]? = some (.cells (chA x (.slice A3 x.f2.length c3)) 32 (0, 0)))) (ds := []) #[false, false, false, false, false, false, false, false] (by kernel_rfl) rfl rfl (HS5.out) (fun hHeld => ?_)
    refine with_tabW seaa.tab5 seaa.bits5 (fun HT_ HW_ => ?_)
    refine pureS (i := 0) (N := (some 24)) #[true, false, false, false, false, false, false, false] HT_ ?_
    refine pureS (i := 1) (N := (some 25)) #[true, true, false, false, false, false, false, false] HT_ ?_
    refine pureS (i := 2) (N := (some 26)) #[true, true, true, false, false, false, false, false] HT_ ?_
    refine pureS (i := 3) (N := (some 27)) #[true, true, true, true, false, false, false, false] HT_ ?_
    refine take_ (i := 4) (N := (some 28)) (v := ?_) (a' := ?_) #[true, true, true, true, true, false, false, false] rfl rfl (take_ofW HT_.out HW_.out (by kernel_rfl)) (fun _ _ _ h => h) (Or.inl ⟨by rfl, ?_⟩) hHeld ?_ ?_
    rotate_left
    ·rintro w' ⟨s0, s1⟩
     refine Eq.trans (load32_run (x := y) (v := (.slice Ae y.f2.length ce)) _ (p := .tmp 27) ?ho_ ?hp_ s0) ?hr_
     case ho_ => rfl
     case hp_ => rfl
     case hr_ => rfl
    rotate_left
    ·simp only [Act.put, List.setIfInBounds_toArray, List.set_cons_zero, List.set_cons_succ, i64_w, i32_w]
     rfl
    refine take_ (i := 5) (N := (some 29)) (v := ?_) (a' := ?_) #[true, true, true, true, true, true, false, false] rfl rfl (take_ofW HT_.out HW_.out (by kernel_rfl)) (fun _ _ _ h => h) (Or.inl ⟨by rfl, ?_⟩) hHeld ?_ ?_
    rotate_left
    ·rintro w' ⟨s0, s1⟩
     refine Eq.trans (load32_run (x := x) (v := (.slice A3 x.f2.length c3)) _ (p := .tmp 4) ?ho_ ?hp_ (blk_cells s1)) ?hr_
     case ho_ => rfl
     case hp_ => rfl
     case hr_ => rfl
    rotate_left
    ·simp only [Act.put, List.setIfInBounds_toArray, List.set_cons_zero, List.set_cons_succ, i64_w, i32_w]
     rfl
    refine one_ (i := 6) (N := (some 30)) #[true, true, true, true, true, true, true, false] rfl rfl (one_of HT_.out (by kernel_rfl)) (by decide) (fun K hK => ?_)
    refine goesF_ Try.func42 (by kernel_rfl) rfl #[(.agg #[.int .i64 y.f0.f0, .int .i64 y.f0.f1, .int .i64 y.f1, (.slice Ae y.f2.length ce), .int .i64 y.f3, .int .i64 y.f4.f0, .int .i64 y.f4.f1, .int .i64 y.f5.f0, .int .i64 y.f5.f1, .int .i64 y.f6.f0, .int .i64 y.f6.f1, .string y.f7, .string y.f8]), (.agg #[.int .i64 x.f0.f0, .int .i64 x.f0.f1, .int .i64 x.f1, (.slice A3 x.f2.length c3), .int .i64 x.f3, .int .i64 x.f4.f0, .int .i64 x.f4.f1, .int .i64 x.f5.f0, .int .i64 x.f5.f1, .int .i64 x.f6.f0, .int .i64 x.f6.f1, .string x.f7, .string x.f8])] (by rfl) rfl (p := .tmp 24) rfl rfl (by (try simp only [List.map_toArray, List.map_cons, List.map_nil]); first | done | rfl) ?_
    refine (causal_compare.calls y.f0.f0 y.f0.f1 y.f1 Ae ce y.f2 y.f3 y.f4.f0 y.f4.f1 y.f5.f0 y.f5.f1 y.f6.f0 y.f6.f1 y.f7 y.f8 x.f0.f0 x.f0.f1 x.f1 A3 c3 x.f2 x.f3 x.f4.f0 x.f4.f1 x.f5.f0 x.f5.f1 x.f6.f0 x.f6.f1 x.f7 x.f8 r _ HCE.out HLE.out HCX.out HX3.out HCMP.out).mono ?_
    rintro e w5 ⟨rfl, hb5⟩
    refine ⟨_, rfl, ?_⟩
    have hS6 : (fun w' => (∀ j u, (chL y (.slice Ae y.f2.length ce))[j]? = some u → w'.cell? ((⟨gr, m * 13, none⟩ : Addr).add j) = some u) ∧ w'.heap[gb]? = some (.cells (chA x (.slice A3 x.f2.length c3)) 32 (0, 0))) w5 := ⟨fun j u hj => (World.cell?_of_block (hb5.block _ (World.block_lt_of_cell? _ _ (hHeld.1 j u hj)))).trans (hHeld.1 j u hj), blk_below hHeld.2 hb5⟩
    have HB5 := Aside0.mk hb5
    clear hb5
    refine hK.out _ _ (hS6) (fun hHeld => ?_)
    clear hK K
    refine norm_ (a' := ?_) ?_ ?_
    rotate_left
    ·show Act.put _ (some 30) _ = _
     simp only [Act.put, List.setIfInBounds_toArray, List.set_cons_zero, List.set_cons_succ, i64_w, i32_w]
     rfl
    refine pureS (i := 7) (N := (some 31)) #[true, true, true, true, true, true, true, true] HT_ ?_
    refine done_ (done_of HT_.out (by kernel_rfl)) ?_
    go_wp2_with (fail)
    have hmw : m < 100000 := by have h1_ := HML.out; have h2_ := HN.out; omega
    rw [Go.Proofs.Ytnopjjilpgekfaa.PCa.w1 hmw]
    go_roundg (hi - (m + 1))
    case measure => have h1_ := HG.out; have h2_ := HM1.out; have h3_ := HM2.out; omega
    case rel =>
     refine ⟨m + 1, hi, rfl, rfl, ⟨HM2.out⟩, HIN, ⟨Nat.le_refl _⟩, ⟨HBL.out.trans ((below_drew (Below.refl _ _)).trans (HB5.out.mono (Nat.le_refl _)) |>.mono HBL.out.size)⟩, ⟨fun t ht => ?_, HI.out.2⟩⟩
     exact HM.out t m (Nat.le_of_lt_succ ht) HML.out (by rw [HY.out, HRX.out]; exact HNG.out)
   ·have d1 : decide (r < 0) = false := decide_eq_false hneg
    have HNG := Aside0.mk hneg
    clear hneg
    refine start_ (n := 8) (S := (fun w' => (∀ j u, (chL y (.slice Ae y.f2.length ce))[j]? = some u → w'.cell? ((⟨gr, m * 13, none⟩ : Addr).add j) = some u) ∧ w'.heap[gb]? = some (.cells (chA x (.slice A3 x.f2.length c3)) 32 (0, 0)))) (ds := []) #[false, false, false, false, false, false, false, false] (by kernel_rfl) rfl rfl (HS5.out) (fun hHeld => ?_)
    refine with_tabW seaa.tab5 seaa.bits5 (fun HT_ HW_ => ?_)
    refine pureS (i := 0) (N := (some 24)) #[true, false, false, false, false, false, false, false] HT_ ?_
    refine pureS (i := 1) (N := (some 25)) #[true, true, false, false, false, false, false, false] HT_ ?_
    refine pureS (i := 2) (N := (some 26)) #[true, true, true, false, false, false, false, false] HT_ ?_
    refine pureS (i := 3) (N := (some 27)) #[true, true, true, true, false, false, false, false] HT_ ?_
    refine take_ (i := 4) (N := (some 28)) (v := ?_) (a' := ?_) #[true, true, true, true, true, false, false, false] rfl rfl (take_ofW HT_.out HW_.out (by kernel_rfl)) (fun _ _ _ h => h) (Or.inl ⟨by rfl, ?_⟩) hHeld ?_ ?_
    rotate_left
    ·rintro w' ⟨s0, s1⟩
     refine Eq.trans (load32_run (x := y) (v := (.slice Ae y.f2.length ce)) _ (p := .tmp 27) ?ho_ ?hp_ s0) ?hr_
     case ho_ => rfl
     case hp_ => rfl
     case hr_ => rfl
    rotate_left
    ·simp only [Act.put, List.setIfInBounds_toArray, List.set_cons_zero, List.set_cons_succ, i64_w, i32_w]
     rfl
    refine take_ (i := 5) (N := (some 29)) (v := ?_) (a' := ?_) #[true, true, true, true, true, true, false, false] rfl rfl (take_ofW HT_.out HW_.out (by kernel_rfl)) (fun _ _ _ h => h) (Or.inl ⟨by rfl, ?_⟩) hHeld ?_ ?_
    rotate_left
    ·rintro w' ⟨s0, s1⟩
     refine Eq.trans (load32_run (x := x) (v := (.slice A3 x.f2.length c3)) _ (p := .tmp 4) ?ho_ ?hp_ (blk_cells s1)) ?hr_
     case ho_ => rfl
     case hp_ => rfl
     case hr_ => rfl
    rotate_left
    ·simp only [Act.put, List.setIfInBounds_toArray, List.set_cons_zero, List.set_cons_succ, i64_w, i32_w]
     rfl
    refine one_ (i := 6) (N := (some 30)) #[true, true, true, true, true, true, true, false] rfl rfl (one_of HT_.out (by kernel_rfl)) (by decide) (fun K hK => ?_)
    refine goesF_ Try.func42 (by kernel_rfl) rfl #[(.agg #[.int .i64 y.f0.f0, .int .i64 y.f0.f1, .int .i64 y.f1, (.slice Ae y.f2.length ce), .int .i64 y.f3, .int .i64 y.f4.f0, .int .i64 y.f4.f1, .int .i64 y.f5.f0, .int .i64 y.f5.f1, .int .i64 y.f6.f0, .int .i64 y.f6.f1, .string y.f7, .string y.f8]), (.agg #[.int .i64 x.f0.f0, .int .i64 x.f0.f1, .int .i64 x.f1, (.slice A3 x.f2.length c3), .int .i64 x.f3, .int .i64 x.f4.f0, .int .i64 x.f4.f1, .int .i64 x.f5.f0, .int .i64 x.f5.f1, .int .i64 x.f6.f0, .int .i64 x.f6.f1, .string x.f7, .string x.f8])] (by rfl) rfl (p := .tmp 24) rfl rfl (by (try simp only [List.map_toArray, List.map_cons, List.map_nil]); first | done | rfl) ?_
    refine (causal_compare.calls y.f0.f0 y.f0.f1 y.f1 Ae ce y.f2 y.f3 y.f4.f0 y.f4.f1 y.f5.f0 y.f5.f1 y.f6.f0 y.f6.f1 y.f7 y.f8 x.f0.f0 x.f0.f1 x.f1 A3 c3 x.f2 x.f3 x.f4.f0 x.f4.f1 x.f5.f0 x.f5.f1 x.f6.f0 x.f6.f1 x.f7 x.f8 r _ HCE.out HLE.out HCX.out HX3.out HCMP.out).mono ?_
    rintro e w5 ⟨rfl, hb5⟩
    refine ⟨_, rfl, ?_⟩
    have hS6 : (fun w' => (∀ j u, (chL y (.slice Ae y.f2.length ce))[j]? = some u → w'.cell? ((⟨gr, m * 13, none⟩ : Addr).add j) = some u) ∧ w'.heap[gb]? = some (.cells (chA x (.slice A3 x.f2.length c3)) 32 (0, 0))) w5 := ⟨fun j u hj => (World.cell?_of_block (hb5.block _ (World.block_lt_of_cell? _ _ (hHeld.1 j u hj)))).trans (hHeld.1 j u hj), blk_below hHeld.2 hb5⟩
    have HB5 := Aside0.mk hb5
    clear hb5
    refine hK.out _ _ (hS6) (fun hHeld => ?_)
    clear hK K
    refine norm_ (a' := ?_) ?_ ?_
    rotate_left
    ·show Act.put _ (some 30) _ = _
     simp only [Act.put, List.setIfInBounds_toArray, List.set_cons_zero, List.set_cons_succ, i64_w, i32_w]
     rfl
    refine pureS (i := 7) (N := (some 31)) #[true, true, true, true, true, true, true, true] HT_ ?_
    refine done_ (done_of HT_.out (by kernel_rfl)) ?_
    go_wp2_with (fail)
    go_roundg (m - lo)
    case measure => have h1_ := HG.out; have h2_ := HM1.out; have h3_ := HM2.out; omega
    case rel =>
     refine ⟨lo, m, rfl, rfl, HM1, ⟨Nat.le_of_lt HML.out⟩, ⟨Nat.le_refl _⟩, ⟨HBL.out.trans ((below_drew (Below.refl _ _)).trans (HB5.out.mono (Nat.le_refl _)) |>.mono HBL.out.size)⟩, ⟨HI.out.1, fun t ht htl => Int.not_lt.1 fun h => ?_⟩⟩
     have h1_ := HM.out m t ht htl h
     rw [HY.out, HRX.out] at h1_
     have h2_ := HNG.out
     omega
  ·have hcn : cntX x l = lo := by
    have h0 := HLH.out
    refine count_first _ l lo (by have := HIN.out; omega) (fun t a ht ha => ?_) (fun t a ht ha => ?_)
    ·have htl := (List.getElem?_eq_some_iff.1 ha).1
     rw [rd32_at htl] at ha
     injection ha with ha
     rw [← ha]
     exact decide_eq_true (HI.out.1 t ht)
    ·have htl := (List.getElem?_eq_some_iff.1 ha).1
     rw [rd32_at htl] at ha
     injection ha with ha
     rw [← ha]
     exact decide_eq_false (Int.not_lt.2 (HI.out.2 t (by omega) htl))
   have HCN := Aside0.mk hcn
   clear hcn
   have g1 : decide (lo < hi) = false := decide_eq_false hlt
   clear hlt
   by_cases hln : lo < l.length
   ·obtain ⟨m, hmm⟩ : ∃ m, lo = m := ⟨_, rfl⟩
    rw [hmm] at HCN hln g1 ⊢
    clear hmm
    obtain ⟨gr, cap, hform, hbgr, hgrw, cells, hgr⟩ := Kd.S_form HS.out (by omega)
    injection hform with hA _ hch
    subst hA; subst hch
    obtain ⟨c', hcl, hM, hcc, hfr⟩ := Kd.R_elem (Kd.S_R HS.out) z32 (m : Int) (by omega) (by omega)
    rw [Int.toNat_natCast] at hcc
    obtain ⟨v, rfl, hv⟩ := chM hM
    have hv2 : (Kd.int .i64).R 3 w base _ v (rd_T32 l (m : Int)).f2 := hv
    have hcc2 : ∀ j u, (chL (rd_T32 l (m : Int)) v)[j]? = some u → w.cell? ⟨gr, m * 13 + j, none⟩ = some u := hcc
    have hy : rd_T32 l (m : Int) ∈ l := List.mem_of_getElem? (rd32_at hln)
    obtain ⟨y, hyy⟩ : ∃ y, rd_T32 l (m : Int) = y := ⟨_, rfl⟩
    rw [hyy] at hv2 hcc2 hy
    clear hv hcc hM hcl hfr
    obtain ⟨Ae, ce, rfl, hle, hCe⟩ := Kd.R_reads hv2
    have hbw : Below w.heap.size w wo.drew := below_drew (HBgb.out.trans (HBL.out.mono HBgb.out.size))
    have HBW := Aside0.mk hbw
    have hS5 : (fun w' => (∀ j u, (chL y (.slice Ae y.f2.length ce))[j]? = some u → w'.cell? ((⟨gr, m * 13, none⟩ : Addr).add j) = some u) ∧ w'.heap[gb]? = some (.cells (chA x (.slice A3 x.f2.length c3)) 32 (0, 0))) wo.drew := ⟨fun j u hj => by rw [add_at]; exact (hbw.cell (p := ⟨gr, m * 13 + j, none⟩) hgrw).trans (hcc2 j u hj), blk_below HXgb.out (below_drew HBL.out)⟩
    have HS5 := Aside0.mk hS5
    have HCE := Aside0.mk (Kd.C_below hCe hbw)
    have HCX := Aside0.mk (Kd.C_below HX.out hbw)
    have HLE := Aside0.mk hle
    have HCMP := Aside0.mk (compare_is y x (HB.out y hy) HBX.out)
    have b1 : (0 ≤ (m : Int)) = True := eq_true (by omega)
    have b2 : ((m : Int) < (l.length : Int)) = True := eq_true (by omega)
    have b3 : (m < l.length) = True := eq_true hln
    have b4 : decide (m < l.length) = true := decide_eq_true hln
    clear hgr hbgr hgrw hv2 hcc2 hy hyy hCe hle hbw hS5 hln
    obtain ⟨r, hr⟩ : ∃ r, cmpX y x = r := ⟨_, rfl⟩
    rw [hr] at HCMP
    clear hr
    go_wp2_with (fail)
    refine start_ (n := 16) (S := (fun w' => (∀ j u, (chL y (.slice Ae y.f2.length ce))[j]? = some u → w'.cell? ((⟨gr, m * 13, none⟩ : Addr).add j) = some u) ∧ w'.heap[gb]? = some (.cells (chA x (.slice A3 x.f2.length c3)) 32 (0, 0)))) (ds := []) #[false, false, false, false, false, false, false, false, false, false, false, false, false, false, false, false] (by kernel_rfl) rfl rfl (HS5.out) (fun hHeld => ?_)
    refine with_tabW seab.tab8 seab.bits8 (fun HT_ HW_ => ?_)
    refine pureS (i := 0) (N := (some 35)) #[true, false, false, false, false, false, false, false, false, false, false, false, false, false, false, false] HT_ ?_
    refine pureS (i := 1) (N := (some 36)) #[true, true, false, false, false, false, false, false, false, false, false, false, false, false, false, false] HT_ ?_
    refine pureS (i := 2) (N := (some 37)) #[true, true, true, false, false, false, false, false, false, false, false, false, false, false, false, false] HT_ ?_
    refine pureS (i := 3) (N := (some 38)) #[true, true, true, true, false, false, false, false, false, false, false, false, false, false, false, false] HT_ ?_
    refine pureS (i := 4) (N := (some 39)) #[true, true, true, true, true, false, false, false, false, false, false, false, false, false, false, false] HT_ ?_
    refine pureS (i := 5) (N := (some 40)) #[true, true, true, true, true, true, false, false, false, false, false, false, false, false, false, false] HT_ ?_
    refine pureS (i := 6) (N := (some 41)) #[true, true, true, true, true, true, true, false, false, false, false, false, false, false, false, false] HT_ ?_
    refine pureS (i := 7) (N := (some 42)) #[true, true, true, true, true, true, true, true, false, false, false, false, false, false, false, false] HT_ ?_
    refine pureS (i := 8) (N := (some 43)) #[true, true, true, true, true, true, true, true, true, false, false, false, false, false, false, false] HT_ ?_
    refine take_ (i := 9) (N := (some 44)) (v := ?_) (a' := ?_) #[true, true, true, true, true, true, true, true, true, true, false, false, false, false, false, false] rfl rfl (take_ofW HT_.out HW_.out (by kernel_rfl)) (fun _ _ _ h => h) (Or.inl ⟨by rfl, ?_⟩) hHeld ?_ ?_
    rotate_left
    ·rintro w' ⟨s0, s1⟩
     refine Eq.trans (load32_run (x := y) (v := (.slice Ae y.f2.length ce)) _ (p := .tmp 43) ?ho_ ?hp_ s0) ?hr_
     case ho_ => rfl
     case hp_ => rfl
     case hr_ => rfl
    rotate_left
    ·simp only [Act.put, List.setIfInBounds_toArray, List.set_cons_zero, List.set_cons_succ, i64_w, i32_w]
     rfl
    refine take_ (i := 10) (N := (some 45)) (v := ?_) (a' := ?_) #[true, true, true, true, true, true, true, true, true, true, true, false, false, false, false, false] rfl rfl (take_ofW HT_.out HW_.out (by kernel_rfl)) (fun _ _ _ h => h) (Or.inl ⟨by rfl, ?_⟩) hHeld ?_ ?_
    rotate_left
    ·rintro w' ⟨s0, s1⟩
     refine Eq.trans (load32_run (x := x) (v := (.slice A3 x.f2.length c3)) _ (p := .tmp 4) ?ho_ ?hp_ (blk_cells s1)) ?hr_
     case ho_ => rfl
     case hp_ => rfl
     case hr_ => rfl
    rotate_left
    ·simp only [Act.put, List.setIfInBounds_toArray, List.set_cons_zero, List.set_cons_succ, i64_w, i32_w]
     rfl
    refine one_ (i := 11) (N := (some 46)) #[true, true, true, true, true, true, true, true, true, true, true, true, false, false, false, false] rfl rfl (one_of HT_.out (by kernel_rfl)) (by decide) (fun K hK => ?_)
    refine goesF_ Try.func42 (by kernel_rfl) rfl #[(.agg #[.int .i64 y.f0.f0, .int .i64 y.f0.f1, .int .i64 y.f1, (.slice Ae y.f2.length ce), .int .i64 y.f3, .int .i64 y.f4.f0, .int .i64 y.f4.f1, .int .i64 y.f5.f0, .int .i64 y.f5.f1, .int .i64 y.f6.f0, .int .i64 y.f6.f1, .string y.f7, .string y.f8]), (.agg #[.int .i64 x.f0.f0, .int .i64 x.f0.f1, .int .i64 x.f1, (.slice A3 x.f2.length c3), .int .i64 x.f3, .int .i64 x.f4.f0, .int .i64 x.f4.f1, .int .i64 x.f5.f0, .int .i64 x.f5.f1, .int .i64 x.f6.f0, .int .i64 x.f6.f1, .string x.f7, .string x.f8])] (by rfl) rfl (p := .tmp 40) rfl rfl (by (try simp only [List.map_toArray, List.map_cons, List.map_nil]); first | done | rfl) ?_
    refine (causal_compare.calls y.f0.f0 y.f0.f1 y.f1 Ae ce y.f2 y.f3 y.f4.f0 y.f4.f1 y.f5.f0 y.f5.f1 y.f6.f0 y.f6.f1 y.f7 y.f8 x.f0.f0 x.f0.f1 x.f1 A3 c3 x.f2 x.f3 x.f4.f0 x.f4.f1 x.f5.f0 x.f5.f1 x.f6.f0 x.f6.f1 x.f7 x.f8 r _ HCE.out HLE.out HCX.out HX3.out HCMP.out).mono ?_
    rintro e w5 ⟨rfl, hb5⟩
    refine ⟨_, rfl, ?_⟩
    have hS6 : (fun w' => (∀ j u, (chL y (.slice Ae y.f2.length ce))[j]? = some u → w'.cell? ((⟨gr, m * 13, none⟩ : Addr).add j) = some u) ∧ w'.heap[gb]? = some (.cells (chA x (.slice A3 x.f2.length c3)) 32 (0, 0))) w5 := ⟨fun j u hj => (World.cell?_of_block (hb5.block _ (World.block_lt_of_cell? _ _ (hHeld.1 j u hj)))).trans (hHeld.1 j u hj), blk_below hHeld.2 hb5⟩
    have HB5 := Aside0.mk hb5
    clear hb5
    refine hK.out _ _ (hS6) (fun hHeld => ?_)
    clear hK K
    refine norm_ (a' := ?_) ?_ ?_
    rotate_left
    ·show Act.put _ (some 46) _ = _
     simp only [Act.put, List.setIfInBounds_toArray, List.set_cons_zero, List.set_cons_succ, i64_w, i32_w]
     rfl
    refine pureS (i := 12) (N := (some 47)) #[true, true, true, true, true, true, true, true, true, true, true, true, true, false, false, false] HT_ ?_
    refine pureS (i := 13) (N := (some 48)) #[true, true, true, true, true, true, true, true, true, true, true, true, true, true, false, false] HT_ ?_
    refine pureS (i := 14) (N := (some 6)) #[true, true, true, true, true, true, true, true, true, true, true, true, true, true, true, false] HT_ ?_
    refine pureS (i := 15) (N := (some 7)) #[true, true, true, true, true, true, true, true, true, true, true, true, true, true, true, true] HT_ ?_
    refine done_ (done_of HT_.out (by kernel_rfl)) ?_
    go_wp2_with (fail)
    go_ret2
    exact SearchPost.mk HCN.out _ rfl (HBW.out.trans (HB5.out.mono HBW.out.size))
   ·have b4 : decide (lo < l.length) = false := decide_eq_false hln
    clear hln
    go_wp2_with (fail)
    refine start_ (n := 16) (S := (fun _ => True)) (ds := []) #[false, false, false, false, false, false, false, false, false, false, false, false, false, false, false, false] (by kernel_rfl) rfl rfl (trivial) (fun hHeld => ?_)
    refine with_tabW seab.tab8 seab.bits8 (fun HT_ HW_ => ?_)
    refine pureS (i := 0) (N := (some 35)) #[true, false, false, false, false, false, false, false, false, false, false, false, false, false, false, false] HT_ ?_
    refine pureS (i := 1) (N := (some 36)) #[true, true, false, false, false, false, false, false, false, false, false, false, false, false, false, false] HT_ ?_
    refine pureS (i := 2) (N := (some 37)) #[true, true, true, false, false, false, false, false, false, false, false, false, false, false, false, false] HT_ ?_
    refine pureS (i := 3) (N := (some 38)) #[true, true, true, true, false, false, false, false, false, false, false, false, false, false, false, false] HT_ ?_
    refine pureS (i := 4) (N := (some 39)) #[true, true, true, true, true, false, false, false, false, false, false, false, false, false, false, false] HT_ ?_
    refine pure_ (i := 5) (N := (some 40)) (v := undef) (a' := ?_) #[true, true, true, true, true, true, false, false, false, false, false, false, false, false, false, false] rfl rfl (any_of HT_.out (by kernel_rfl)) (fun _ _ _ h => h) (Or.inr ⟨by rfl, rfl⟩) ?_ ?_
    rotate_left
    ·simp only [Act.put, List.setIfInBounds_toArray, List.set_cons_zero, List.set_cons_succ, i64_w, i32_w]
     rfl
    refine pure_ (i := 6) (N := (some 41)) (v := undef) (a' := ?_) #[true, true, true, true, true, true, true, false, false, false, false, false, false, false, false, false] rfl rfl (any_of HT_.out (by kernel_rfl)) (fun _ _ _ h => h) (Or.inr ⟨by rfl, rfl⟩) ?_ ?_
    rotate_left
    ·simp only [Act.put, List.setIfInBounds_toArray, List.set_cons_zero, List.set_cons_succ, i64_w, i32_w]
     rfl
    refine pure_ (i := 7) (N := (some 42)) (v := undef) (a' := ?_) #[true, true, true, true, true, true, true, true, false, false, false, false, false, false, false, false] rfl rfl (any_of HT_.out (by kernel_rfl)) (fun _ _ _ h => h) (Or.inr ⟨by rfl, rfl⟩) ?_ ?_
    rotate_left
    ·simp only [Act.put, List.setIfInBounds_toArray, List.set_cons_zero, List.set_cons_succ, i64_w, i32_w]
     rfl
    refine pure_ (i := 8) (N := (some 43)) (v := undef) (a' := ?_) #[true, true, true, true, true, true, true, true, true, false, false, false, false, false, false, false] rfl rfl (any_of HT_.out (by kernel_rfl)) (fun _ _ _ h => h) (Or.inr ⟨by rfl, rfl⟩) ?_ ?_
    rotate_left
    ·simp only [Act.put, List.setIfInBounds_toArray, List.set_cons_zero, List.set_cons_succ, i64_w, i32_w]
     rfl
    refine pure_ (i := 9) (N := (some 44)) (v := undef) (a' := ?_) #[true, true, true, true, true, true, true, true, true, true, false, false, false, false, false, false] rfl rfl (any_of HT_.out (by kernel_rfl)) (fun _ _ _ h => h) (Or.inr ⟨by rfl, rfl⟩) ?_ ?_
    rotate_left
    ·simp only [Act.put, List.setIfInBounds_toArray, List.set_cons_zero, List.set_cons_succ, i64_w, i32_w]
     rfl
    refine pure_ (i := 10) (N := (some 45)) (v := undef) (a' := ?_) #[true, true, true, true, true, true, true, true, true, true, true, false, false, false, false, false] rfl rfl (any_of HT_.out (by kernel_rfl)) (fun _ _ _ h => h) (Or.inr ⟨by rfl, rfl⟩) ?_ ?_
    rotate_left
    ·simp only [Act.put, List.setIfInBounds_toArray, List.set_cons_zero, List.set_cons_succ, i64_w, i32_w]
     rfl
    refine pure_ (i := 11) (N := (some 46)) (v := undef) (a' := ?_) #[true, true, true, true, true, true, true, true, true, true, true, true, false, false, false, false] rfl rfl (any_of HT_.out (by kernel_rfl)) (fun _ _ _ h => h) (Or.inr ⟨by rfl, rfl⟩) ?_ ?_
    rotate_left
    ·simp only [Act.put, List.setIfInBounds_toArray, List.set_cons_zero, List.set_cons_succ, i64_w, i32_w]
     rfl
    refine pure_ (i := 12) (N := (some 47)) (v := undef) (a' := ?_) #[true, true, true, true, true, true, true, true, true, true, true, true, true, false, false, false] rfl rfl (any_of HT_.out (by kernel_rfl)) (fun _ _ _ h => h) (Or.inr ⟨by rfl, rfl⟩) ?_ ?_
    rotate_left
    ·simp only [Act.put, List.setIfInBounds_toArray, List.set_cons_zero, List.set_cons_succ, i64_w, i32_w]
     rfl
    refine pureS (i := 13) (N := (some 48)) #[true, true, true, true, true, true, true, true, true, true, true, true, true, true, false, false] HT_ ?_
    refine pureS (i := 14) (N := (some 6)) #[true, true, true, true, true, true, true, true, true, true, true, true, true, true, true, false] HT_ ?_
    refine pureS (i := 15) (N := (some 7)) #[true, true, true, true, true, true, true, true, true, true, true, true, true, true, true, true] HT_ ?_
    refine done_ (done_of HT_.out (by kernel_rfl)) ?_
    go_wp2_with (fail)
    go_ret2
    exact SearchPost.mk HCN.out _ rfl (below_drew (HBgb.out.trans (HBL.out.mono HBgb.out.size)))
def tka.T7 : Bool × List (List Nat × List Nat) := (true, [([], []), ([0], [0]), ([], []), ([], []), ([3], [3]), ([4], [4]), ([2, 5], [2, 5]), ([1, 6], [1, 6]), ([7, 6], [7]), ([8], [8]), ([9, 8], [8, 9]), ([10, 8, 8], [8, 10]), ([11], [11]), ([12, 11], [11, 12]), ([13, 11], [11, 13]), ([14, 11], [11, 14]), ([11], [11]), ([16, 11, 11], [11, 16]), ([15, 17, 11], [11, 15, 17]), ([18, 11], [11, 18]), ([11, 19, 8], [8, 11, 19]), ([8, 20], [8, 20])])
def tka.B7 : List Nat := [0, 1, 0, 0, 8, 24, 60, 127, 255, 511, 1023, 2047, 4095, 8191, 16383, 32767, 4095, 69631, 262143, 524287, 1048575, 2097151]
theorem tka.tab7 : rtab .any (opsOf Try.f13 7) = tka.T7 := by kernel_rfl
theorem tka.bits7 : waitsOk tka.T7.2 tka.B7 = true := by kernel_rfl
def tkb.T13 : Bool × List (List Nat × List Nat) := (true, [([], []), ([0], [0]), ([1], [1]), ([2], [2]), ([], []), ([3, 4], [3, 4]), ([5], [5]), ([6], [6]), ([6], [6]), ([7, 5, 0, 1, 2, 3, 4, 5, 6, 7], [7]), ([8, 9, 0, 1, 2, 3, 4, 5, 6, 7, 8, 9], [8])])
def tkb.B13 : List Nat := [0, 1, 3, 7, 0, 31, 63, 127, 127, 255, 1023]
theorem tkb.tab13 : rtab .any (opsOf Try.f13 13) = tkb.T13 := by kernel_rfl
theorem tkb.bits13 : waitsOk tkb.T13.2 tkb.B13 = true := by kernel_rfl
def tkc.T14 : Bool × List (List Nat × List Nat) := (true, [([], []), ([], []), ([1], [1]), ([2], [2]), ([3], [3]), ([], []), ([], []), ([6], [6]), ([7], [7]), ([4, 5, 8, 7], [4, 5, 8]), ([0, 0, 1, 2, 3, 4, 5, 6, 7, 8, 9], [0]), ([10, 0, 1, 2, 3, 4, 5, 6, 7, 8, 9], [10]), ([11, 9, 9, 0, 1, 2, 3, 4, 5, 6, 7, 8, 9], [9, 11])])
def tkc.B14 : List Nat := [0, 0, 2, 6, 14, 0, 0, 64, 192, 510, 1023, 2047, 4095]
theorem tkc.tab14 : rtab .any (opsOf Try.f13 14) = tkc.T14 := by kernel_rfl
theorem tkc.bits14 : waitsOk tkc.T14.2 tkc.B14 = true := by kernel_rfl
def tkd.T15 : Bool × List (List Nat × List Nat) := (true, [([], []), ([0], [0]), ([1], [1]), ([2], [2]), ([], []), ([4], [4]), ([3, 5], [3, 5]), ([6], [6]), ([3, 5, 5, 0, 1, 2, 3, 4, 5], [3, 5]), ([8], [8]), ([3, 9, 7, 8, 0, 1, 2, 3, 4, 5, 6, 7, 8, 9], [3, 7, 9])])
def tkd.B15 : List Nat := [0, 1, 3, 7, 0, 16, 63, 127, 63, 319, 1023]
theorem tkd.tab15 : rtab .any (opsOf Try.f13 15) = tkd.T15 := by kernel_rfl
theorem tkd.bits15 : waitsOk tkd.T15.2 tkd.B15 = true := by kernel_rfl
def ownX (l : List S32) (x : S32) : Bool := decide (keyOf x ∈ l.map keyOf)
/-- Take: what is held behind it, what comes, the error. -/
def takeF (room : Int) (l : List S32) (known : List Int) (x : S32) : List S32 × List S32 × Int :=
 if chkC known = 0 then (if checkX x = 0 then (if (withinX known x || ownX l x) = true then (l, [], 5) else if ripeC known x = true then ((relF l.length (tickC known x.f0.f1).1 [x] l).2, (relF l.length (tickC known x.f0.f1).1 [x] l).1, 0) else if room ≤ l.length then (l, [], 6) else (l.take (cntX x l) ++ x :: l.drop (cntX x l), [], 0)) else (l, [], checkX x)) else (l, [], chkC known)
def TakeB (w : World) (base : Nat) (P : Nat → Prop) (g : Nat) (room : Int) (r : List S32 × List S32 × Int) (e : Ending) (w' : World) : Prop :=
 ∃ (P' O : Nat → Prop) (v' : Value), e = .returned (.tuple #[v', .int .i64 r.2.2]) ∧ BufI w' base P' g room r.1 ∧ Kd.S k32 32 w' base O v' r.2.1 ∧ (∀ k, P' k → P k ∨ w.heap.size ≤ k) ∧ (∀ k, O k → ¬ P' k) ∧ (∀ k, O k → P k ∨ w.heap.size ≤ k) ∧ Kept w w' P
theorem TakeB.err {w w' : World} {base : Nat} {P : Nat → Prop} {g : Nat} {room : Int} {l : List S32} {c : Int} (h : BufI w base P g room l) (hb : Below w.heap.size w w') : TakeB w base P g room (l, [], c) (.returned (.tuple #[.slice none 0 0, .int .i64 c])) w' :=
 ⟨P, fun _ => False, .slice none 0 0, rfl, h.below hb, Kd.S_nil _ _ _ _ _, fun _ hk => .inl hk, fun _ hk => hk.elim, fun _ hk => hk.elim, Kept.of_below hb _⟩
set_option maxHeartbeats 8000000 in
set_option maxRecDepth 100000 in
theorem take_chk {w : World} {base : Nat} {P : Nat → Prop} {g : Nat} {room : Int} {l : List S32} (hB : BufI w base P g room l) (A0 : Option Addr) (c0 : Nat) (known : List Int) (hk : Kd.C (Kd.int .i64) w A0 known.length known) (hkc : known.length ≤ c0)
  (x : S32) (A3 : Option Addr) (c3 : Nat) (hx : Kd.C (Kd.int .i64) w A3 x.f2.length x.f2) (hx3 : x.f2.length ≤ c3) (hc : chkC known ≠ 0) (p : Option Addr) :
  Calls Try.prog 13 #[.pointer p, .slice A0 known.length c0, (.agg #[.int .i64 x.f0.f0, .int .i64 x.f0.f1, .int .i64 x.f1, (.slice A3 x.f2.length c3), .int .i64 x.f3, .int .i64 x.f4.f0, .int .i64 x.f4.f1, .int .i64 x.f5.f0, .int .i64 x.f5.f1, .int .i64 x.f6.f0, .int .i64 x.f6.f1, .string x.f7, .string x.f8])] w (TakeB w base P g room (l, [], chkC known)) := by
 have HBUF := Aside0.mk hB
 have HK := Aside0.mk hk
 have HKC := Aside0.mk hkc
 have HCK := Aside0.mk (clock_Check_is known 66 (by decide))
 clear hB hk hkc hx hx3
 generalize chkC known = cc at *
 have e1 : (cc != 0) = true := by rw [bne_iff_ne]; exact hc
 clear hc
 go_enter Try.func13, Try.ntmps13
 go_wp2_with (first | ((with_reducible refine gate_dst (N := 5) rfl ?_); refine box_event ?hg (N := 5) ?hd (cs := #[.int .i64 x.f0.f0, .int .i64 x.f0.f1, .int .i64 x.f1, (.slice A3 x.f2.length c3), .int .i64 x.f3, .int .i64 x.f4.f0, .int .i64 x.f4.f1, .int .i64 x.f5.f0, .int .i64 x.f5.f1, .int .i64 x.f6.f0, .int .i64 x.f6.f1, .string x.f7, .string x.f8]) (t := 32) ?hr ?_; (case hd => rfl); (case hg => rfl); (case hr => first | (go_simp; done) | (go_simp; rfl)); intro gb hr_ w0 hbox hb; have HXgb := Aside0.mk hbox; have HBgb := Aside0.mk hb; have HNgb := Aside0.mk (Nat.le_of_eq hr_.symm); clear hbox hb hr_) | (go_at_call 33; (with_reducible refine (clock_Check.calls 66 A0 c0 known _ _ (Kd.C_below HK.out HBgb.out) HKC.out HCK.out).mono ?_); rintro e w1 ⟨rfl, ⟨nd, hnd⟩⟩; have HB1 := Aside0.mk (show Below w.heap.size w w1 by rw [hnd]; exact pw_below_drewN HBgb.out nd); have HX1 := Aside0.mk (show w1.heap[gb]? = some (.cells (chA x (.slice A3 x.f2.length c3)) 32 (0, 0)) by rw [hnd]; exact HXgb.out); clear hnd nd))
 go_ret2
 exact TakeB.err HBUF.out HB1.out
set_option maxHeartbeats 8000000 in
set_option maxRecDepth 100000 in
theorem take_bad {w : World} {base : Nat} {P : Nat → Prop} {g : Nat} {room : Int} {l : List S32} (hB : BufI w base P g room l) (A0 : Option Addr) (c0 : Nat) (known : List Int) (hk : Kd.C (Kd.int .i64) w A0 known.length known) (hkc : known.length ≤ c0)
  (x : S32) (A3 : Option Addr) (c3 : Nat) (hx : Kd.C (Kd.int .i64) w A3 x.f2.length x.f2) (hx3 : x.f2.length ≤ c3) (hs : x.f7.size < 4611686018427387904) (hc : chkC known = 0) (hc2 : checkX x ≠ 0) (p : Option Addr) :
  Calls Try.prog 13 #[.pointer p, .slice A0 known.length c0, (.agg #[.int .i64 x.f0.f0, .int .i64 x.f0.f1, .int .i64 x.f1, (.slice A3 x.f2.length c3), .int .i64 x.f3, .int .i64 x.f4.f0, .int .i64 x.f4.f1, .int .i64 x.f5.f0, .int .i64 x.f5.f1, .int .i64 x.f6.f0, .int .i64 x.f6.f1, .string x.f7, .string x.f8])] w (TakeB w base P g room (l, [], checkX x)) := by
 have HBUF := Aside0.mk hB
 have HK := Aside0.mk hk
 have HKC := Aside0.mk hkc
 have HC3 := Aside0.mk hx
 have HL3 := Aside0.mk hx3
 have HCK := Aside0.mk (clock_Check_is known 66 (by decide))
 rw [hc] at HCK
 have HCE := Aside0.mk (change_Check_is (x.f7.size + 200) x.f0.f0 x.f0.f1 x.f1 x.f2 x.f3 x.f4.f0 x.f4.f1 x.f5.f0 x.f5.f1 x.f6.f0 x.f6.f1 x.f7 x.f8 hs (by omega) (by omega))
 rw [show checkC x.f0.f0 x.f0.f1 x.f1 x.f2 x.f3 x.f4.f0 x.f4.f1 x.f5.f0 x.f5.f1 x.f6.f0 x.f6.f1 x.f7 x.f8 = checkX x from rfl] at HCE
 clear hB hk hkc hx hx3 hs hc
 generalize checkX x = cc at *
 have e1 : (cc != 0) = true := by rw [bne_iff_ne]; exact hc2
 clear hc2
 go_enter Try.func13, Try.ntmps13
 go_wp2_with (first | ((with_reducible refine gate_dst (N := 5) rfl ?_); refine box_event ?hg (N := 5) ?hd (cs := #[.int .i64 x.f0.f0, .int .i64 x.f0.f1, .int .i64 x.f1, (.slice A3 x.f2.length c3), .int .i64 x.f3, .int .i64 x.f4.f0, .int .i64 x.f4.f1, .int .i64 x.f5.f0, .int .i64 x.f5.f1, .int .i64 x.f6.f0, .int .i64 x.f6.f1, .string x.f7, .string x.f8]) (t := 32) ?hr ?_; (case hd => rfl); (case hg => rfl); (case hr => first | (go_simp; done) | (go_simp; rfl)); intro gb hr_ w0 hbox hb; have HXgb := Aside0.mk hbox; have HBgb := Aside0.mk hb; have HNgb := Aside0.mk (Nat.le_of_eq hr_.symm); clear hbox hb hr_) | (go_at_call 33; (with_reducible refine (clock_Check.calls 66 A0 c0 known _ _ (Kd.C_below HK.out HBgb.out) HKC.out HCK.out).mono ?_); rintro e w1 ⟨rfl, ⟨nd, hnd⟩⟩; have HB1 := Aside0.mk (show Below w.heap.size w w1 by rw [hnd]; exact pw_below_drewN HBgb.out nd); have HX1 := Aside0.mk (show w1.heap[gb]? = some (.cells (chA x (.slice A3 x.f2.length c3)) 32 (0, 0)) by rw [hnd]; exact HXgb.out); clear hnd nd) | ((with_reducible refine gate_dst (N := 17) rfl ?_); refine load32_ev rfl (N := 17) rfl x (.slice A3 x.f2.length c3) (p := .tmp 5) rfl (ad := ⟨gb, 0, none⟩) rfl (blk_cells HX1.out) ?_) | (go_at_call 34; (with_reducible refine (change_Check.calls (x.f7.size + 200) x.f0.f0 x.f0.f1 x.f1 A3 c3 x.f2 x.f3 x.f4.f0 x.f4.f1 x.f5.f0 x.f5.f1 x.f6.f0 x.f6.f1 x.f7 x.f8 _ _ (Kd.C_below HC3.out HB1.out) HL3.out HCE.out).mono ?_); rintro e w2 ⟨rfl, hb2⟩; have HB2 := Aside0.mk (HB1.out.trans (hb2.mono HB1.out.size)); have HX2 := Aside0.mk (blk_below HX1.out hb2); clear hb2))
 go_ret2
 exact TakeB.err HBUF.out HB2.out
set_option maxHeartbeats 8000000 in
set_option maxRecDepth 100000 in
theorem take_within {w : World} {base : Nat} {P : Nat → Prop} {g : Nat} {room : Int} {l : List S32} (hB : BufI w base P g room l) (A0 : Option Addr) (c0 : Nat) (known : List Int) (hk : Kd.C (Kd.int .i64) w A0 known.length known) (hkc : known.length ≤ c0)
  (x : S32) (A3 : Option Addr) (c3 : Nat) (hx : Kd.C (Kd.int .i64) w A3 x.f2.length x.f2) (hx3 : x.f2.length ≤ c3) (hs : x.f7.size < 4611686018427387904) (hc : chkC known = 0) (hc2 : checkX x = 0) (hw : withinX known x = true) :
  Calls Try.prog 13 #[.pointer (some ⟨g, 0, none⟩), .slice A0 known.length c0, (.agg #[.int .i64 x.f0.f0, .int .i64 x.f0.f1, .int .i64 x.f1, (.slice A3 x.f2.length c3), .int .i64 x.f3, .int .i64 x.f4.f0, .int .i64 x.f4.f1, .int .i64 x.f5.f0, .int .i64 x.f5.f1, .int .i64 x.f6.f0, .int .i64 x.f6.f1, .string x.f7, .string x.f8])] w (TakeB w base P g room (l, [], 5)) := by
 have HBUF := Aside0.mk hB
 have HK := Aside0.mk hk
 have HKC := Aside0.mk hkc
 have HC3 := Aside0.mk hx
 have HL3 := Aside0.mk hx3
 have HCK := Aside0.mk (clock_Check_is known 66 (by decide))
 rw [hc] at HCK
 have HCE := Aside0.mk (change_Check_is (x.f7.size + 200) x.f0.f0 x.f0.f1 x.f1 x.f2 x.f3 x.f4.f0 x.f4.f1 x.f5.f0 x.f5.f1 x.f6.f0 x.f6.f1 x.f7 x.f8 hs (by omega) (by omega))
 rw [show checkC x.f0.f0 x.f0.f1 x.f1 x.f2 x.f3 x.f4.f0 x.f4.f1 x.f5.f0 x.f5.f1 x.f6.f0 x.f6.f1 x.f7 x.f8 = checkX x from rfl, hc2] at HCE
 have HX64 := Aside0.mk (check_ok hc2)
 have HCH := Aside0.mk hc
 obtain ⟨at_, hat_⟩ : ∃ a, atC known x.f0.f1 = a := ⟨_, rfl⟩
 have HAT := Aside0.mk (clock_At_is known x.f0.f1)
 rw [hat_] at HAT
 have hwx : withinX known x = decide (x.f1 ≤ at_) := by unfold withinX; rw [hat_]
 clear hat_

 rw [hw] at hwx
 have d1 : decide (x.f1 ≤ at_) = true := hwx.symm
 clear hB hk hkc hx hx3 hs hc hc2 hw hwx
 obtain ⟨mb, es, cc, A, ch, hO⟩ := HBUF.out.opened
 have HO := Aside0.mk hO
 clear hO

 go_enter Try.func13, Try.ntmps13
 go_wp2_with (first | ((with_reducible refine gate_dst (N := 5) rfl ?_); refine box_event ?hg (N := 5) ?hd (cs := #[.int .i64 x.f0.f0, .int .i64 x.f0.f1, .int .i64 x.f1, (.slice A3 x.f2.length c3), .int .i64 x.f3, .int .i64 x.f4.f0, .int .i64 x.f4.f1, .int .i64 x.f5.f0, .int .i64 x.f5.f1, .int .i64 x.f6.f0, .int .i64 x.f6.f1, .string x.f7, .string x.f8]) (t := 32) ?hr ?_; (case hd => rfl); (case hg => rfl); (case hr => first | (go_simp; done) | (go_simp; rfl)); intro gb hr_ w0 hbox hb; have HXgb := Aside0.mk hbox; have HBgb := Aside0.mk hb; have HNgb := Aside0.mk (Nat.le_of_eq hr_.symm); clear hbox hb hr_) | (go_at_call 33; (with_reducible refine (clock_Check.calls 66 A0 c0 known _ _ (Kd.C_below HK.out HBgb.out) HKC.out HCK.out).mono ?_); rintro e w1 ⟨rfl, ⟨nd, hnd⟩⟩; have HB1 := Aside0.mk (show Below w.heap.size w w1 by rw [hnd]; exact pw_below_drewN HBgb.out nd); have HX1 := Aside0.mk (show w1.heap[gb]? = some (.cells (chA x (.slice A3 x.f2.length c3)) 32 (0, 0)) by rw [hnd]; exact HXgb.out); clear hnd nd) | ((with_reducible refine gate_dst (N := 17) rfl ?_); refine load32_ev rfl (N := 17) rfl x (.slice A3 x.f2.length c3) (p := .tmp 5) rfl (ad := ⟨gb, 0, none⟩) rfl (blk_cells HX1.out) ?_) | (go_at_call 34; (with_reducible refine (change_Check.calls (x.f7.size + 200) x.f0.f0 x.f0.f1 x.f1 A3 c3 x.f2 x.f3 x.f4.f0 x.f4.f1 x.f5.f0 x.f5.f1 x.f6.f0 x.f6.f1 x.f7 x.f8 _ _ (Kd.C_below HC3.out HB1.out) HL3.out HCE.out).mono ?_); rintro e w2 ⟨rfl, hb2⟩; have HB2 := Aside0.mk (HB1.out.trans (hb2.mono HB1.out.size)); have HX2 := Aside0.mk (blk_below HX1.out hb2); clear hb2))

 refine start_ (n := 22) (S := (fun w' => w'.heap[gb]? = some (.cells (chA x (.slice A3 x.f2.length c3)) 32 (0, 0)) ∧ w'.cell? ⟨g, 2, none⟩ = some (.map (some mb)) ∧ w'.heap[mb]? = some (.map (es.map entE).toArray cc))) (ds := []) #[false, false, false, false, false, false, false, false, false, false, false, false, false, false, false, false, false, false, false, false, false, false] (by kernel_rfl) rfl rfl (⟨HX2.out, (blk_cell (blk_below HO.out.blk HB2.out) 2).trans rfl, blk_below HO.out.map (below_drew HB2.out)⟩) (fun hHeld => ?_)
 refine with_tabW tka.tab7 tka.bits7 (fun HT_ HW_ => ?_)
 refine pureS (i := 0) (N := (some 22)) #[true, false, false, false, false, false, false, false, false, false, false, false, false, false, false, false, false, false, false, false, false, false] HT_ ?_
 refine pureS (i := 2) (N := (some 24)) #[true, false, true, false, false, false, false, false, false, false, false, false, false, false, false, false, false, false, false, false, false, false] HT_ ?_
 refine pureS (i := 3) (N := (some 25)) #[true, false, true, true, false, false, false, false, false, false, false, false, false, false, false, false, false, false, false, false, false, false] HT_ ?_
 refine pureS (i := 4) (N := (some 26)) #[true, false, true, true, true, false, false, false, false, false, false, false, false, false, false, false, false, false, false, false, false, false] HT_ ?_
 refine take_ (i := 1) (N := (some 23)) (v := ?_) (a' := ?_) #[true, true, true, true, true, false, false, false, false, false, false, false, false, false, false, false, false, false, false, false, false, false] rfl rfl (take_ofW HT_.out HW_.out (by kernel_rfl)) (fun _ _ _ h => h) (Or.inl ⟨by rfl, ?_⟩) hHeld ?_ ?_
 rotate_left
 ·rintro w' ⟨s0, s1, s2⟩; have f1 : w'.cell? ⟨gb, 2, none⟩ = some (.int .i64 x.f1) := (blk_cell s0 2).trans rfl; have f2 : w'.cell? ⟨gb, 1, none⟩ = some (.int .i64 x.f0.f1) := (blk_cell s0 1).trans rfl
  go_simp
  with_reducible rfl
 rotate_left
 ·simp only [Act.put, List.setIfInBounds_toArray, List.set_cons_zero, List.set_cons_succ, i64_w, i32_w]
  rfl
 refine take_ (i := 5) (N := (some 27)) (v := ?_) (a' := ?_) #[true, true, true, true, true, true, false, false, false, false, false, false, false, false, false, false, false, false, false, false, false, false] rfl rfl (take_ofW HT_.out HW_.out (by kernel_rfl)) (fun _ _ _ h => h) (Or.inl ⟨by rfl, ?_⟩) hHeld ?_ ?_
 rotate_left
 ·rintro w' ⟨s0, s1, s2⟩; have f1 : w'.cell? ⟨gb, 2, none⟩ = some (.int .i64 x.f1) := (blk_cell s0 2).trans rfl; have f2 : w'.cell? ⟨gb, 1, none⟩ = some (.int .i64 x.f0.f1) := (blk_cell s0 1).trans rfl
  go_simp
  with_reducible rfl
 rotate_left
 ·simp only [Act.put, List.setIfInBounds_toArray, List.set_cons_zero, List.set_cons_succ, i64_w, i32_w]
  rfl
 refine one_ (i := 6) (N := (some 28)) #[true, true, true, true, true, true, true, false, false, false, false, false, false, false, false, false, false, false, false, false, false, false] rfl rfl (one_of HT_.out (by kernel_rfl)) (by decide) (fun K hK => ?_)
 refine goes_ Try.func35 (by kernel_rfl) rfl #[.slice A0 known.length c0, .int .i64 x.f0.f1] (by rfl) rfl rfl (by (try simp only [List.map_toArray, List.map_cons, List.map_nil]); first | done | rfl) ?_
 refine (clock_At.calls A0 c0 known x.f0.f1 _ _ (Kd.C_drew (Kd.C_below HK.out HB2.out)) HKC.out HAT.out).mono ?_
 rintro e w3 ⟨rfl, ⟨nd2, hnd2⟩⟩
 refine ⟨_, rfl, ?_⟩
 have HB3 := Aside0.mk (show Below w.heap.size w w3 by rw [hnd2]; exact pw_below_drewN (below_drew HB2.out) nd2)
 have hS3 : (fun w' => w'.heap[gb]? = some (.cells (chA x (.slice A3 x.f2.length c3)) 32 (0, 0)) ∧ w'.cell? ⟨g, 2, none⟩ = some (.map (some mb)) ∧ w'.heap[mb]? = some (.map (es.map entE).toArray cc)) w3 := by rw [hnd2]; exact ⟨hHeld.1, hHeld.2.1, hHeld.2.2⟩
 clear hnd2
 refine hK.out _ _ (hS3) (fun hHeld => ?_)
 clear hK K
 refine norm_ (a' := ?_) ?_ ?_
 rotate_left
 ·show Act.put _ (some 28) _ = _
  simp only [Act.put, List.setIfInBounds_toArray, List.set_cons_zero, List.set_cons_succ, i64_w, i32_w]
  rfl
 refine pureS (i := 7) (N := (some 29)) #[true, true, true, true, true, true, true, true, false, false, false, false, false, false, false, false, false, false, false, false, false, false] HT_ ?_
 refine pureS (i := 8) (N := (some 30)) #[true, true, true, true, true, true, true, true, true, false, false, false, false, false, false, false, false, false, false, false, false, false] HT_ ?_
 refine pure_ (i := 9) (N := (some 31)) (v := undef) (a' := ?_) #[true, true, true, true, true, true, true, true, true, true, false, false, false, false, false, false, false, false, false, false, false, false] rfl rfl (any_of HT_.out (by kernel_rfl)) (fun _ _ _ h => h) (Or.inr ⟨by rfl, rfl⟩) ?_ ?_
 rotate_left
 ·simp only [Act.put, List.setIfInBounds_toArray, List.set_cons_zero, List.set_cons_succ, i64_w, i32_w]
  rfl
 refine pure_ (i := 10) (N := (some 32)) (v := undef) (a' := ?_) #[true, true, true, true, true, true, true, true, true, true, true, false, false, false, false, false, false, false, false, false, false, false] rfl rfl (any_of HT_.out (by kernel_rfl)) (fun _ _ _ h => h) (Or.inr ⟨by rfl, rfl⟩) ?_ ?_
 rotate_left
 ·simp only [Act.put, List.setIfInBounds_toArray, List.set_cons_zero, List.set_cons_succ, i64_w, i32_w]
  rfl
 refine pure_ (i := 11) (N := (some 33)) (v := undef) (a' := ?_) #[true, true, true, true, true, true, true, true, true, true, true, true, false, false, false, false, false, false, false, false, false, false] rfl rfl (any_of HT_.out (by kernel_rfl)) (fun _ _ _ h => h) (Or.inr ⟨by rfl, rfl⟩) ?_ ?_
 rotate_left
 ·simp only [Act.put, List.setIfInBounds_toArray, List.set_cons_zero, List.set_cons_succ, i64_w, i32_w]
  rfl
 refine pure_ (i := 12) (N := (some 34)) (v := undef) (a' := ?_) #[true, true, true, true, true, true, true, true, true, true, true, true, true, false, false, false, false, false, false, false, false, false] rfl rfl (any_of HT_.out (by kernel_rfl)) (fun _ _ _ h => h) (Or.inr ⟨by rfl, rfl⟩) ?_ ?_
 rotate_left
 ·simp only [Act.put, List.setIfInBounds_toArray, List.set_cons_zero, List.set_cons_succ, i64_w, i32_w]
  rfl
 refine pure_ (i := 13) (N := (some 35)) (v := undef) (a' := ?_) #[true, true, true, true, true, true, true, true, true, true, true, true, true, true, false, false, false, false, false, false, false, false] rfl rfl (any_of HT_.out (by kernel_rfl)) (fun _ _ _ h => h) (Or.inr ⟨by rfl, rfl⟩) ?_ ?_
 rotate_left
 ·simp only [Act.put, List.setIfInBounds_toArray, List.set_cons_zero, List.set_cons_succ, i64_w, i32_w]
  rfl
 refine pure_ (i := 14) (N := (some 36)) (v := undef) (a' := ?_) #[true, true, true, true, true, true, true, true, true, true, true, true, true, true, true, false, false, false, false, false, false, false] rfl rfl (any_of HT_.out (by kernel_rfl)) (fun _ _ _ h => h) (Or.inr ⟨by rfl, rfl⟩) ?_ ?_
 rotate_left
 ·simp only [Act.put, List.setIfInBounds_toArray, List.set_cons_zero, List.set_cons_succ, i64_w, i32_w]
  rfl
 refine pure_ (i := 15) (N := (some 37)) (v := undef) (a' := ?_) #[true, true, true, true, true, true, true, true, true, true, true, true, true, true, true, true, false, false, false, false, false, false] rfl rfl (any_of HT_.out (by kernel_rfl)) (fun _ _ _ h => h) (Or.inr ⟨by rfl, rfl⟩) ?_ ?_
 rotate_left
 ·simp only [Act.put, List.setIfInBounds_toArray, List.set_cons_zero, List.set_cons_succ, i64_w, i32_w]
  rfl
 refine pure_ (i := 16) (N := (some 38)) (v := undef) (a' := ?_) #[true, true, true, true, true, true, true, true, true, true, true, true, true, true, true, true, true, false, false, false, false, false] rfl rfl (any_of HT_.out (by kernel_rfl)) (fun _ _ _ h => h) (Or.inr ⟨by rfl, rfl⟩) ?_ ?_
 rotate_left
 ·simp only [Act.put, List.setIfInBounds_toArray, List.set_cons_zero, List.set_cons_succ, i64_w, i32_w]
  rfl
 refine pure_ (i := 17) (N := (some 39)) (v := undef) (a' := ?_) #[true, true, true, true, true, true, true, true, true, true, true, true, true, true, true, true, true, true, false, false, false, false] rfl rfl (any_of HT_.out (by kernel_rfl)) (fun _ _ _ h => h) (Or.inr ⟨by rfl, rfl⟩) ?_ ?_
 rotate_left
 ·simp only [Act.put, List.setIfInBounds_toArray, List.set_cons_zero, List.set_cons_succ, i64_w, i32_w]
  rfl
 refine pure_ (i := 18) (N := (some 40)) (v := undef) (a' := ?_) #[true, true, true, true, true, true, true, true, true, true, true, true, true, true, true, true, true, true, true, false, false, false] rfl rfl (any_of HT_.out (by kernel_rfl)) (fun _ _ _ h => h) (Or.inr ⟨by rfl, rfl⟩) ?_ ?_
 rotate_left
 ·simp only [Act.put, List.setIfInBounds_toArray, List.set_cons_zero, List.set_cons_succ, i64_w, i32_w]
  rfl
 refine pure_ (i := 19) (N := (some 41)) (v := undef) (a' := ?_) #[true, true, true, true, true, true, true, true, true, true, true, true, true, true, true, true, true, true, true, true, false, false] rfl rfl (any_of HT_.out (by kernel_rfl)) (fun _ _ _ h => h) (Or.inr ⟨by rfl, rfl⟩) ?_ ?_
 rotate_left
 ·simp only [Act.put, List.setIfInBounds_toArray, List.set_cons_zero, List.set_cons_succ, i64_w, i32_w]
  rfl
 refine pure_ (i := 20) (N := (some 42)) (v := undef) (a' := ?_) #[true, true, true, true, true, true, true, true, true, true, true, true, true, true, true, true, true, true, true, true, true, false] rfl rfl (any_of HT_.out (by kernel_rfl)) (fun _ _ _ h => h) (Or.inr ⟨by rfl, rfl⟩) ?_ ?_
 rotate_left
 ·simp only [Act.put, List.setIfInBounds_toArray, List.set_cons_zero, List.set_cons_succ, i64_w, i32_w]
  rfl
 refine pureS (i := 21) (N := (some 43)) #[true, true, true, true, true, true, true, true, true, true, true, true, true, true, true, true, true, true, true, true, true, true] HT_ ?_
 refine done_ (done_of HT_.out (by kernel_rfl)) ?_
 go_wp2_with (fail)
 go_ret2
 exact TakeB.err HBUF.out HB3.out
set_option maxHeartbeats 8000000 in
set_option maxRecDepth 100000 in
theorem take_own {w : World} {base : Nat} {P : Nat → Prop} {g : Nat} {room : Int} {l : List S32} (hB : BufI w base P g room l) (A0 : Option Addr) (c0 : Nat) (known : List Int) (hk : Kd.C (Kd.int .i64) w A0 known.length known) (hkc : known.length ≤ c0)
  (x : S32) (A3 : Option Addr) (c3 : Nat) (hx : Kd.C (Kd.int .i64) w A3 x.f2.length x.f2) (hx3 : x.f2.length ≤ c3) (hs : x.f7.size < 4611686018427387904) (hc : chkC known = 0) (hc2 : checkX x = 0) (hw : withinX known x = false) (ho : ownX l x = true) :
  Calls Try.prog 13 #[.pointer (some ⟨g, 0, none⟩), .slice A0 known.length c0, (.agg #[.int .i64 x.f0.f0, .int .i64 x.f0.f1, .int .i64 x.f1, (.slice A3 x.f2.length c3), .int .i64 x.f3, .int .i64 x.f4.f0, .int .i64 x.f4.f1, .int .i64 x.f5.f0, .int .i64 x.f5.f1, .int .i64 x.f6.f0, .int .i64 x.f6.f1, .string x.f7, .string x.f8])] w (TakeB w base P g room (l, [], 5)) := by
 have HBUF := Aside0.mk hB
 have HK := Aside0.mk hk
 have HKC := Aside0.mk hkc
 have HC3 := Aside0.mk hx
 have HL3 := Aside0.mk hx3
 have HCK := Aside0.mk (clock_Check_is known 66 (by decide))
 rw [hc] at HCK
 have HCE := Aside0.mk (change_Check_is (x.f7.size + 200) x.f0.f0 x.f0.f1 x.f1 x.f2 x.f3 x.f4.f0 x.f4.f1 x.f5.f0 x.f5.f1 x.f6.f0 x.f6.f1 x.f7 x.f8 hs (by omega) (by omega))
 rw [show checkC x.f0.f0 x.f0.f1 x.f1 x.f2 x.f3 x.f4.f0 x.f4.f1 x.f5.f0 x.f5.f1 x.f6.f0 x.f6.f1 x.f7 x.f8 = checkX x from rfl, hc2] at HCE
 have HX64 := Aside0.mk (check_ok hc2)
 have HCH := Aside0.mk hc
 obtain ⟨at_, hat_⟩ : ∃ a, atC known x.f0.f1 = a := ⟨_, rfl⟩
 have HAT := Aside0.mk (clock_At_is known x.f0.f1)
 rw [hat_] at HAT
 have hwx : withinX known x = decide (x.f1 ≤ at_) := by unfold withinX; rw [hat_]
 clear hat_

 rw [hw] at hwx
 have d1 : decide (x.f1 ≤ at_) = false := hwx.symm
 obtain ⟨mb, es, cc, A, ch, hO⟩ := HBUF.out.opened
 have HO := Aside0.mk hO
 clear hO

 have hown : valP es (keyOf x) = .int .i64 1 := by
  rw [HO.out.ok.val, if_pos (of_decide_eq_true ho)]
 have HOWN := Aside0.mk hown
 clear hB hk hkc hx hx3 hs hc hc2 hw hwx ho hown
 go_enter Try.func13, Try.ntmps13
 go_wp2_with (first | ((with_reducible refine gate_dst (N := 5) rfl ?_); refine box_event ?hg (N := 5) ?hd (cs := #[.int .i64 x.f0.f0, .int .i64 x.f0.f1, .int .i64 x.f1, (.slice A3 x.f2.length c3), .int .i64 x.f3, .int .i64 x.f4.f0, .int .i64 x.f4.f1, .int .i64 x.f5.f0, .int .i64 x.f5.f1, .int .i64 x.f6.f0, .int .i64 x.f6.f1, .string x.f7, .string x.f8]) (t := 32) ?hr ?_; (case hd => rfl); (case hg => rfl); (case hr => first | (go_simp; done) | (go_simp; rfl)); intro gb hr_ w0 hbox hb; have HXgb := Aside0.mk hbox; have HBgb := Aside0.mk hb; have HNgb := Aside0.mk (Nat.le_of_eq hr_.symm); clear hbox hb hr_) | (go_at_call 33; (with_reducible refine (clock_Check.calls 66 A0 c0 known _ _ (Kd.C_below HK.out HBgb.out) HKC.out HCK.out).mono ?_); rintro e w1 ⟨rfl, ⟨nd, hnd⟩⟩; have HB1 := Aside0.mk (show Below w.heap.size w w1 by rw [hnd]; exact pw_below_drewN HBgb.out nd); have HX1 := Aside0.mk (show w1.heap[gb]? = some (.cells (chA x (.slice A3 x.f2.length c3)) 32 (0, 0)) by rw [hnd]; exact HXgb.out); clear hnd nd) | ((with_reducible refine gate_dst (N := 17) rfl ?_); refine load32_ev rfl (N := 17) rfl x (.slice A3 x.f2.length c3) (p := .tmp 5) rfl (ad := ⟨gb, 0, none⟩) rfl (blk_cells HX1.out) ?_) | (go_at_call 34; (with_reducible refine (change_Check.calls (x.f7.size + 200) x.f0.f0 x.f0.f1 x.f1 A3 c3 x.f2 x.f3 x.f4.f0 x.f4.f1 x.f5.f0 x.f5.f1 x.f6.f0 x.f6.f1 x.f7 x.f8 _ _ (Kd.C_below HC3.out HB1.out) HL3.out HCE.out).mono ?_); rintro e w2 ⟨rfl, hb2⟩; have HB2 := Aside0.mk (HB1.out.trans (hb2.mono HB1.out.size)); have HX2 := Aside0.mk (blk_below HX1.out hb2); clear hb2))

 refine start_ (n := 22) (S := (fun w' => w'.heap[gb]? = some (.cells (chA x (.slice A3 x.f2.length c3)) 32 (0, 0)) ∧ w'.cell? ⟨g, 2, none⟩ = some (.map (some mb)) ∧ w'.heap[mb]? = some (.map (es.map entE).toArray cc))) (ds := []) #[false, false, false, false, false, false, false, false, false, false, false, false, false, false, false, false, false, false, false, false, false, false] (by kernel_rfl) rfl rfl (⟨HX2.out, (blk_cell (blk_below HO.out.blk HB2.out) 2).trans rfl, blk_below HO.out.map (below_drew HB2.out)⟩) (fun hHeld => ?_)
 refine with_tabW tka.tab7 tka.bits7 (fun HT_ HW_ => ?_)
 refine pureS (i := 0) (N := (some 22)) #[true, false, false, false, false, false, false, false, false, false, false, false, false, false, false, false, false, false, false, false, false, false] HT_ ?_
 refine pureS (i := 2) (N := (some 24)) #[true, false, true, false, false, false, false, false, false, false, false, false, false, false, false, false, false, false, false, false, false, false] HT_ ?_
 refine pureS (i := 3) (N := (some 25)) #[true, false, true, true, false, false, false, false, false, false, false, false, false, false, false, false, false, false, false, false, false, false] HT_ ?_
 refine pureS (i := 4) (N := (some 26)) #[true, false, true, true, true, false, false, false, false, false, false, false, false, false, false, false, false, false, false, false, false, false] HT_ ?_
 refine take_ (i := 1) (N := (some 23)) (v := ?_) (a' := ?_) #[true, true, true, true, true, false, false, false, false, false, false, false, false, false, false, false, false, false, false, false, false, false] rfl rfl (take_ofW HT_.out HW_.out (by kernel_rfl)) (fun _ _ _ h => h) (Or.inl ⟨by rfl, ?_⟩) hHeld ?_ ?_
 rotate_left
 ·rintro w' ⟨s0, s1, s2⟩; have f1 : w'.cell? ⟨gb, 2, none⟩ = some (.int .i64 x.f1) := (blk_cell s0 2).trans rfl; have f2 : w'.cell? ⟨gb, 1, none⟩ = some (.int .i64 x.f0.f1) := (blk_cell s0 1).trans rfl
  go_simp
  with_reducible rfl
 rotate_left
 ·simp only [Act.put, List.setIfInBounds_toArray, List.set_cons_zero, List.set_cons_succ, i64_w, i32_w]
  rfl
 refine take_ (i := 5) (N := (some 27)) (v := ?_) (a' := ?_) #[true, true, true, true, true, true, false, false, false, false, false, false, false, false, false, false, false, false, false, false, false, false] rfl rfl (take_ofW HT_.out HW_.out (by kernel_rfl)) (fun _ _ _ h => h) (Or.inl ⟨by rfl, ?_⟩) hHeld ?_ ?_
 rotate_left
 ·rintro w' ⟨s0, s1, s2⟩; have f1 : w'.cell? ⟨gb, 2, none⟩ = some (.int .i64 x.f1) := (blk_cell s0 2).trans rfl; have f2 : w'.cell? ⟨gb, 1, none⟩ = some (.int .i64 x.f0.f1) := (blk_cell s0 1).trans rfl
  go_simp
  with_reducible rfl
 rotate_left
 ·simp only [Act.put, List.setIfInBounds_toArray, List.set_cons_zero, List.set_cons_succ, i64_w, i32_w]
  rfl
 refine one_ (i := 6) (N := (some 28)) #[true, true, true, true, true, true, true, false, false, false, false, false, false, false, false, false, false, false, false, false, false, false] rfl rfl (one_of HT_.out (by kernel_rfl)) (by decide) (fun K hK => ?_)
 refine goes_ Try.func35 (by kernel_rfl) rfl #[.slice A0 known.length c0, .int .i64 x.f0.f1] (by rfl) rfl rfl (by (try simp only [List.map_toArray, List.map_cons, List.map_nil]); first | done | rfl) ?_
 refine (clock_At.calls A0 c0 known x.f0.f1 _ _ (Kd.C_drew (Kd.C_below HK.out HB2.out)) HKC.out HAT.out).mono ?_
 rintro e w3 ⟨rfl, ⟨nd2, hnd2⟩⟩
 refine ⟨_, rfl, ?_⟩
 have HB3 := Aside0.mk (show Below w.heap.size w w3 by rw [hnd2]; exact pw_below_drewN (below_drew HB2.out) nd2)
 have hS3 : (fun w' => w'.heap[gb]? = some (.cells (chA x (.slice A3 x.f2.length c3)) 32 (0, 0)) ∧ w'.cell? ⟨g, 2, none⟩ = some (.map (some mb)) ∧ w'.heap[mb]? = some (.map (es.map entE).toArray cc)) w3 := by rw [hnd2]; exact ⟨hHeld.1, hHeld.2.1, hHeld.2.2⟩
 clear hnd2
 refine hK.out _ _ (hS3) (fun hHeld => ?_)
 clear hK K
 refine norm_ (a' := ?_) ?_ ?_
 rotate_left
 ·show Act.put _ (some 28) _ = _
  simp only [Act.put, List.setIfInBounds_toArray, List.set_cons_zero, List.set_cons_succ, i64_w, i32_w]
  rfl
 refine pureS (i := 7) (N := (some 29)) #[true, true, true, true, true, true, true, true, false, false, false, false, false, false, false, false, false, false, false, false, false, false] HT_ ?_
 refine pureS (i := 8) (N := (some 30)) #[true, true, true, true, true, true, true, true, true, false, false, false, false, false, false, false, false, false, false, false, false, false] HT_ ?_
 refine pureS (i := 9) (N := (some 31)) #[true, true, true, true, true, true, true, true, true, true, false, false, false, false, false, false, false, false, false, false, false, false] HT_ ?_
 refine pureS (i := 10) (N := (some 32)) #[true, true, true, true, true, true, true, true, true, true, true, false, false, false, false, false, false, false, false, false, false, false] HT_ ?_
 refine pureS (i := 11) (N := (some 33)) #[true, true, true, true, true, true, true, true, true, true, true, true, false, false, false, false, false, false, false, false, false, false] HT_ ?_
 refine pureS (i := 12) (N := (some 34)) #[true, true, true, true, true, true, true, true, true, true, true, true, true, false, false, false, false, false, false, false, false, false] HT_ ?_
 refine pureS (i := 13) (N := (some 35)) #[true, true, true, true, true, true, true, true, true, true, true, true, true, true, false, false, false, false, false, false, false, false] HT_ ?_
 refine pureS (i := 14) (N := (some 36)) #[true, true, true, true, true, true, true, true, true, true, true, true, true, true, true, false, false, false, false, false, false, false] HT_ ?_
 refine take_ (i := 15) (N := (some 37)) (v := ?_) (a' := ?_) #[true, true, true, true, true, true, true, true, true, true, true, true, true, true, true, true, false, false, false, false, false, false] rfl rfl (take_ofW HT_.out HW_.out (by kernel_rfl)) (fun _ _ _ h => h) (Or.inl ⟨by rfl, ?_⟩) hHeld ?_ ?_
 rotate_left
 ·rintro w' ⟨s0, s1, s2⟩; have f1 : w'.cell? ⟨gb, 2, none⟩ = some (.int .i64 x.f1) := (blk_cell s0 2).trans rfl; have f2 : w'.cell? ⟨gb, 1, none⟩ = some (.int .i64 x.f0.f1) := (blk_cell s0 1).trans rfl
  go_simp
  with_reducible rfl
 rotate_left
 ·simp only [Act.put, List.setIfInBounds_toArray, List.set_cons_zero, List.set_cons_succ, i64_w, i32_w]
  rfl
 refine take_ (i := 16) (N := (some 38)) (v := ?_) (a' := ?_) #[true, true, true, true, true, true, true, true, true, true, true, true, true, true, true, true, true, false, false, false, false, false] rfl rfl (take_ofW HT_.out HW_.out (by kernel_rfl)) (fun _ _ _ h => h) (Or.inl ⟨by rfl, ?_⟩) hHeld ?_ ?_
 rotate_left
 ·rintro w' ⟨s0, s1, s2⟩
  refine Eq.trans (load32_run (x := x) (v := (.slice A3 x.f2.length c3)) _ (p := .tmp 5) ?ho_ ?hp_ (blk_cells s0)) ?hr_
  case ho_ => rfl
  case hp_ => rfl
  case hr_ => rfl
 rotate_left
 ·simp only [Act.put, List.setIfInBounds_toArray, List.set_cons_zero, List.set_cons_succ, i64_w, i32_w]
  rfl
 refine one_ (i := 17) (N := (some 39)) #[true, true, true, true, true, true, true, true, true, true, true, true, true, true, true, true, true, true, false, false, false, false] rfl rfl (one_of HT_.out (by kernel_rfl)) (by decide) (fun K hK => ?_)
 refine goes_ Try.func36 (by kernel_rfl) rfl #[(.agg #[.int .i64 x.f0.f0, .int .i64 x.f0.f1, .int .i64 x.f1, (.slice A3 x.f2.length c3), .int .i64 x.f3, .int .i64 x.f4.f0, .int .i64 x.f4.f1, .int .i64 x.f5.f0, .int .i64 x.f5.f1, .int .i64 x.f6.f0, .int .i64 x.f6.f1, .string x.f7, .string x.f8])] (by rfl) rfl rfl (by (try simp only [List.map_toArray, List.map_cons, List.map_nil]); first | done | rfl) ?_
 refine (causal_of.calls x.f0.f0 x.f0.f1 x.f1 A3 c3 x.f2 x.f3 x.f4.f0 x.f4.f1 x.f5.f0 x.f5.f1 x.f6.f0 x.f6.f1 x.f7 x.f8 x.f0.f1 x.f1 _ (Kd.C_below HC3.out HB3.out) HL3.out rfl).mono ?_
 rintro e w4 ⟨rfl, hb4⟩
 refine ⟨_, rfl, ?_⟩
 have hS4 : (fun w' => w'.heap[gb]? = some (.cells (chA x (.slice A3 x.f2.length c3)) 32 (0, 0)) ∧ w'.cell? ⟨g, 2, none⟩ = some (.map (some mb)) ∧ w'.heap[mb]? = some (.map (es.map entE).toArray cc)) w4 := ⟨blk_below hHeld.1 hb4, (hb4.cell (World.block_lt_of_cell? _ _ hHeld.2.1)).trans hHeld.2.1, blk_below hHeld.2.2 hb4⟩
 have HB4 := Aside0.mk (HB3.out.trans (hb4.mono HB3.out.size))
 clear hb4
 refine hK.out _ _ (hS4) (fun hHeld => ?_)
 clear hK K
 refine norm_ (a' := ?_) ?_ ?_
 rotate_left
 ·show Act.put _ (some 39) _ = _
  simp only [Act.put, List.setIfInBounds_toArray, List.set_cons_zero, List.set_cons_succ, i64_w, i32_w]
  rfl
 refine take_ (i := 18) (N := (some 40)) (v := ?_) (a' := ?_) #[true, true, true, true, true, true, true, true, true, true, true, true, true, true, true, true, true, true, true, false, false, false] rfl rfl (take_ofW HT_.out HW_.out (by kernel_rfl)) (fun _ _ _ h => h) (Or.inl ⟨by rfl, ?_⟩) hHeld ?_ ?_
 rotate_left
 ·rintro w' ⟨s0, s1, s2⟩
  have hl_ : (Instr.lookup 69 (.map (some mb)) (.agg #[.int .i64 x.f0.f1, .int .i64 x.f1]) false).run Try.prog w' = .ok (.int .i64 1) w' := by
   have h_ := look_run (show MapE w' mb es cc from s2) (keyOf x)
   rw [HOWN.out] at h_
   exact h_
  go_simp
  rfl
 rotate_left
 ·simp only [Act.put, List.setIfInBounds_toArray, List.set_cons_zero, List.set_cons_succ, i64_w, i32_w]
  rfl
 refine pureS (i := 19) (N := (some 41)) #[true, true, true, true, true, true, true, true, true, true, true, true, true, true, true, true, true, true, true, true, false, false] HT_ ?_
 refine pureS (i := 20) (N := (some 42)) #[true, true, true, true, true, true, true, true, true, true, true, true, true, true, true, true, true, true, true, true, true, false] HT_ ?_
 refine pureS (i := 21) (N := (some 43)) #[true, true, true, true, true, true, true, true, true, true, true, true, true, true, true, true, true, true, true, true, true, true] HT_ ?_
 refine done_ (done_of HT_.out (by kernel_rfl)) ?_
 go_wp2_with (fail)
 go_ret2
 exact TakeB.err HBUF.out HB4.out
set_option maxHeartbeats 8000000 in
set_option maxRecDepth 100000 in
theorem take_ripe {w : World} {base : Nat} {P : Nat → Prop} {g : Nat} {room : Int} {l : List S32} (hB : BufI w base P g room l) (A0 : Option Addr) (c0 : Nat) (known : List Int) (hk : Kd.C (Kd.int .i64) w A0 known.length known) (hkc : known.length ≤ c0)
  (x : S32) (A3 : Option Addr) (c3 : Nat) (hx : Kd.C (Kd.int .i64) w A3 x.f2.length x.f2) (hx3 : x.f2.length ≤ c3) (hs : x.f7.size < 4611686018427387904) (hc : chkC known = 0) (hc2 : checkX x = 0) (hw : withinX known x = false) (ho : ownX l x = false) (hr : ripeC known x = true) (hn : l.length < 1000) (hl64 : ∀ y ∈ l, y.f2.length ≤ 64) :
  Calls Try.prog 13 #[.pointer (some ⟨g, 0, none⟩), .slice A0 known.length c0, (.agg #[.int .i64 x.f0.f0, .int .i64 x.f0.f1, .int .i64 x.f1, (.slice A3 x.f2.length c3), .int .i64 x.f3, .int .i64 x.f4.f0, .int .i64 x.f4.f1, .int .i64 x.f5.f0, .int .i64 x.f5.f1, .int .i64 x.f6.f0, .int .i64 x.f6.f1, .string x.f7, .string x.f8])] w (TakeB w base P g room ((relF l.length (tickC known x.f0.f1).1 [x] l).2, (relF l.length (tickC known x.f0.f1).1 [x] l).1, 0)) := by
 have HBUF := Aside0.mk hB
 have HK := Aside0.mk hk
 have HKC := Aside0.mk hkc
 have HC3 := Aside0.mk hx
 have HL3 := Aside0.mk hx3
 have HCK := Aside0.mk (clock_Check_is known 66 (by decide))
 rw [hc] at HCK
 have HCE := Aside0.mk (change_Check_is (x.f7.size + 200) x.f0.f0 x.f0.f1 x.f1 x.f2 x.f3 x.f4.f0 x.f4.f1 x.f5.f0 x.f5.f1 x.f6.f0 x.f6.f1 x.f7 x.f8 hs (by omega) (by omega))
 rw [show checkC x.f0.f0 x.f0.f1 x.f1 x.f2 x.f3 x.f4.f0 x.f4.f1 x.f5.f0 x.f5.f1 x.f6.f0 x.f6.f1 x.f7 x.f8 = checkX x from rfl, hc2] at HCE
 have HX64 := Aside0.mk (check_ok hc2)
 have HCH := Aside0.mk hc
 obtain ⟨at_, hat_⟩ : ∃ a, atC known x.f0.f1 = a := ⟨_, rfl⟩
 have HAT := Aside0.mk (clock_At_is known x.f0.f1)
 rw [hat_] at HAT
 have hwx : withinX known x = decide (x.f1 ≤ at_) := by unfold withinX; rw [hat_]
 clear hat_

 rw [hw] at hwx
 have d1 : decide (x.f1 ≤ at_) = false := hwx.symm
 obtain ⟨mb, es, cc, A, ch, hO⟩ := HBUF.out.opened
 have HO := Aside0.mk hO
 clear hO

 have hown : valP es (keyOf x) = .int .i64 0 := by
  rw [HO.out.ok.val, if_neg (of_decide_eq_false ho)]
 have HOWN := Aside0.mk hown
 have HRD := Aside0.mk (ready_is (known := known) (x := x) hc (check_ok hc2).2.2.2.2.2 71 (by decide))

 rw [hr] at HRD
 have HN := Aside0.mk hn
 have H64 := Aside0.mk hl64
 have HCP := Aside0.mk (copy_is x (check_ok hc2).2.2.2.2.2)
 clear hB hk hkc hx hx3 hs hc hc2 hw hwx ho hown hr hn hl64
 go_enter Try.func13, Try.ntmps13
 go_wp2_with (first | ((with_reducible refine gate_dst (N := 5) rfl ?_); refine box_event ?hg (N := 5) ?hd (cs := #[.int .i64 x.f0.f0, .int .i64 x.f0.f1, .int .i64 x.f1, (.slice A3 x.f2.length c3), .int .i64 x.f3, .int .i64 x.f4.f0, .int .i64 x.f4.f1, .int .i64 x.f5.f0, .int .i64 x.f5.f1, .int .i64 x.f6.f0, .int .i64 x.f6.f1, .string x.f7, .string x.f8]) (t := 32) ?hr ?_; (case hd => rfl); (case hg => rfl); (case hr => first | (go_simp; done) | (go_simp; rfl)); intro gb hr_ w0 hbox hb; have HXgb := Aside0.mk hbox; have HBgb := Aside0.mk hb; have HNgb := Aside0.mk (Nat.le_of_eq hr_.symm); clear hbox hb hr_) | (go_at_call 33; (with_reducible refine (clock_Check.calls 66 A0 c0 known _ _ (Kd.C_below HK.out HBgb.out) HKC.out HCK.out).mono ?_); rintro e w1 ⟨rfl, ⟨nd, hnd⟩⟩; have HB1 := Aside0.mk (show Below w.heap.size w w1 by rw [hnd]; exact pw_below_drewN HBgb.out nd); have HX1 := Aside0.mk (show w1.heap[gb]? = some (.cells (chA x (.slice A3 x.f2.length c3)) 32 (0, 0)) by rw [hnd]; exact HXgb.out); clear hnd nd) | ((with_reducible refine gate_dst (N := 17) rfl ?_); refine load32_ev rfl (N := 17) rfl x (.slice A3 x.f2.length c3) (p := .tmp 5) rfl (ad := ⟨gb, 0, none⟩) rfl (blk_cells HX1.out) ?_) | (go_at_call 34; (with_reducible refine (change_Check.calls (x.f7.size + 200) x.f0.f0 x.f0.f1 x.f1 A3 c3 x.f2 x.f3 x.f4.f0 x.f4.f1 x.f5.f0 x.f5.f1 x.f6.f0 x.f6.f1 x.f7 x.f8 _ _ (Kd.C_below HC3.out HB1.out) HL3.out HCE.out).mono ?_); rintro e w2 ⟨rfl, hb2⟩; have HB2 := Aside0.mk (HB1.out.trans (hb2.mono HB1.out.size)); have HX2 := Aside0.mk (blk_below HX1.out hb2); clear hb2))

 refine start_ (n := 22) (S := (fun w' => w'.heap[gb]? = some (.cells (chA x (.slice A3 x.f2.length c3)) 32 (0, 0)) ∧ w'.cell? ⟨g, 2, none⟩ = some (.map (some mb)) ∧ w'.heap[mb]? = some (.map (es.map entE).toArray cc))) (ds := []) #[false, false, false, false, false, false, false, false, false, false, false, false, false, false, false, false, false, false, false, false, false, false] (by kernel_rfl) rfl rfl (⟨HX2.out, (blk_cell (blk_below HO.out.blk HB2.out) 2).trans rfl, blk_below HO.out.map (below_drew HB2.out)⟩) (fun hHeld => ?_)
 refine with_tabW tka.tab7 tka.bits7 (fun HT_ HW_ => ?_)
 refine pureS (i := 0) (N := (some 22)) #[true, false, false, false, false, false, false, false, false, false, false, false, false, false, false, false, false, false, false, false, false, false] HT_ ?_
 refine pureS (i := 2) (N := (some 24)) #[true, false, true, false, false, false, false, false, false, false, false, false, false, false, false, false, false, false, false, false, false, false] HT_ ?_
 refine pureS (i := 3) (N := (some 25)) #[true, false, true, true, false, false, false, false, false, false, false, false, false, false, false, false, false, false, false, false, false, false] HT_ ?_
 refine pureS (i := 4) (N := (some 26)) #[true, false, true, true, true, false, false, false, false, false, false, false, false, false, false, false, false, false, false, false, false, false] HT_ ?_
 refine take_ (i := 1) (N := (some 23)) (v := ?_) (a' := ?_) #[true, true, true, true, true, false, false, false, false, false, false, false, false, false, false, false, false, false, false, false, false, false] rfl rfl (take_ofW HT_.out HW_.out (by kernel_rfl)) (fun _ _ _ h => h) (Or.inl ⟨by rfl, ?_⟩) hHeld ?_ ?_
 rotate_left
 ·rintro w' ⟨s0, s1, s2⟩; have f1 : w'.cell? ⟨gb, 2, none⟩ = some (.int .i64 x.f1) := (blk_cell s0 2).trans rfl; have f2 : w'.cell? ⟨gb, 1, none⟩ = some (.int .i64 x.f0.f1) := (blk_cell s0 1).trans rfl
  go_simp
  with_reducible rfl
 rotate_left
 ·simp only [Act.put, List.setIfInBounds_toArray, List.set_cons_zero, List.set_cons_succ, i64_w, i32_w]
  rfl
 refine take_ (i := 5) (N := (some 27)) (v := ?_) (a' := ?_) #[true, true, true, true, true, true, false, false, false, false, false, false, false, false, false, false, false, false, false, false, false, false] rfl rfl (take_ofW HT_.out HW_.out (by kernel_rfl)) (fun _ _ _ h => h) (Or.inl ⟨by rfl, ?_⟩) hHeld ?_ ?_
 rotate_left
 ·rintro w' ⟨s0, s1, s2⟩; have f1 : w'.cell? ⟨gb, 2, none⟩ = some (.int .i64 x.f1) := (blk_cell s0 2).trans rfl; have f2 : w'.cell? ⟨gb, 1, none⟩ = some (.int .i64 x.f0.f1) := (blk_cell s0 1).trans rfl
  go_simp
  with_reducible rfl
 rotate_left
 ·simp only [Act.put, List.setIfInBounds_toArray, List.set_cons_zero, List.set_cons_succ, i64_w, i32_w]
  rfl
 refine one_ (i := 6) (N := (some 28)) #[true, true, true, true, true, true, true, false, false, false, false, false, false, false, false, false, false, false, false, false, false, false] rfl rfl (one_of HT_.out (by kernel_rfl)) (by decide) (fun K hK => ?_)
 refine goes_ Try.func35 (by kernel_rfl) rfl #[.slice A0 known.length c0, .int .i64 x.f0.f1] (by rfl) rfl rfl (by (try simp only [List.map_toArray, List.map_cons, List.map_nil]); first | done | rfl) ?_
 refine (clock_At.calls A0 c0 known x.f0.f1 _ _ (Kd.C_drew (Kd.C_below HK.out HB2.out)) HKC.out HAT.out).mono ?_
 rintro e w3 ⟨rfl, ⟨nd2, hnd2⟩⟩
 refine ⟨_, rfl, ?_⟩
 have HB3 := Aside0.mk (show Below w.heap.size w w3 by rw [hnd2]; exact pw_below_drewN (below_drew HB2.out) nd2)
 have hS3 : (fun w' => w'.heap[gb]? = some (.cells (chA x (.slice A3 x.f2.length c3)) 32 (0, 0)) ∧ w'.cell? ⟨g, 2, none⟩ = some (.map (some mb)) ∧ w'.heap[mb]? = some (.map (es.map entE).toArray cc)) w3 := by rw [hnd2]; exact ⟨hHeld.1, hHeld.2.1, hHeld.2.2⟩
 clear hnd2
 refine hK.out _ _ (hS3) (fun hHeld => ?_)
 clear hK K
 refine norm_ (a' := ?_) ?_ ?_
 rotate_left
 ·show Act.put _ (some 28) _ = _
  simp only [Act.put, List.setIfInBounds_toArray, List.set_cons_zero, List.set_cons_succ, i64_w, i32_w]
  rfl
 refine pureS (i := 7) (N := (some 29)) #[true, true, true, true, true, true, true, true, false, false, false, false, false, false, false, false, false, false, false, false, false, false] HT_ ?_
 refine pureS (i := 8) (N := (some 30)) #[true, true, true, true, true, true, true, true, true, false, false, false, false, false, false, false, false, false, false, false, false, false] HT_ ?_
 refine pureS (i := 9) (N := (some 31)) #[true, true, true, true, true, true, true, true, true, true, false, false, false, false, false, false, false, false, false, false, false, false] HT_ ?_
 refine pureS (i := 10) (N := (some 32)) #[true, true, true, true, true, true, true, true, true, true, true, false, false, false, false, false, false, false, false, false, false, false] HT_ ?_
 refine pureS (i := 11) (N := (some 33)) #[true, true, true, true, true, true, true, true, true, true, true, true, false, false, false, false, false, false, false, false, false, false] HT_ ?_
 refine pureS (i := 12) (N := (some 34)) #[true, true, true, true, true, true, true, true, true, true, true, true, true, false, false, false, false, false, false, false, false, false] HT_ ?_
 refine pureS (i := 13) (N := (some 35)) #[true, true, true, true, true, true, true, true, true, true, true, true, true, true, false, false, false, false, false, false, false, false] HT_ ?_
 refine pureS (i := 14) (N := (some 36)) #[true, true, true, true, true, true, true, true, true, true, true, true, true, true, true, false, false, false, false, false, false, false] HT_ ?_
 refine take_ (i := 15) (N := (some 37)) (v := ?_) (a' := ?_) #[true, true, true, true, true, true, true, true, true, true, true, true, true, true, true, true, false, false, false, false, false, false] rfl rfl (take_ofW HT_.out HW_.out (by kernel_rfl)) (fun _ _ _ h => h) (Or.inl ⟨by rfl, ?_⟩) hHeld ?_ ?_
 rotate_left
 ·rintro w' ⟨s0, s1, s2⟩; have f1 : w'.cell? ⟨gb, 2, none⟩ = some (.int .i64 x.f1) := (blk_cell s0 2).trans rfl; have f2 : w'.cell? ⟨gb, 1, none⟩ = some (.int .i64 x.f0.f1) := (blk_cell s0 1).trans rfl
  go_simp
  with_reducible rfl
 rotate_left
 ·simp only [Act.put, List.setIfInBounds_toArray, List.set_cons_zero, List.set_cons_succ, i64_w, i32_w]
  rfl
 refine take_ (i := 16) (N := (some 38)) (v := ?_) (a' := ?_) #[true, true, true, true, true, true, true, true, true, true, true, true, true, true, true, true, true, false, false, false, false, false] rfl rfl (take_ofW HT_.out HW_.out (by kernel_rfl)) (fun _ _ _ h => h) (Or.inl ⟨by rfl, ?_⟩) hHeld ?_ ?_
 rotate_left
 ·rintro w' ⟨s0, s1, s2⟩
  refine Eq.trans (load32_run (x := x) (v := (.slice A3 x.f2.length c3)) _ (p := .tmp 5) ?ho_ ?hp_ (blk_cells s0)) ?hr_
  case ho_ => rfl
  case hp_ => rfl
  case hr_ => rfl
 rotate_left
 ·simp only [Act.put, List.setIfInBounds_toArray, List.set_cons_zero, List.set_cons_succ, i64_w, i32_w]
  rfl
 refine one_ (i := 17) (N := (some 39)) #[true, true, true, true, true, true, true, true, true, true, true, true, true, true, true, true, true, true, false, false, false, false] rfl rfl (one_of HT_.out (by kernel_rfl)) (by decide) (fun K hK => ?_)
 refine goes_ Try.func36 (by kernel_rfl) rfl #[(.agg #[.int .i64 x.f0.f0, .int .i64 x.f0.f1, .int .i64 x.f1, (.slice A3 x.f2.length c3), .int .i64 x.f3, .int .i64 x.f4.f0, .int .i64 x.f4.f1, .int .i64 x.f5.f0, .int .i64 x.f5.f1, .int .i64 x.f6.f0, .int .i64 x.f6.f1, .string x.f7, .string x.f8])] (by rfl) rfl rfl (by (try simp only [List.map_toArray, List.map_cons, List.map_nil]); first | done | rfl) ?_
 refine (causal_of.calls x.f0.f0 x.f0.f1 x.f1 A3 c3 x.f2 x.f3 x.f4.f0 x.f4.f1 x.f5.f0 x.f5.f1 x.f6.f0 x.f6.f1 x.f7 x.f8 x.f0.f1 x.f1 _ (Kd.C_below HC3.out HB3.out) HL3.out rfl).mono ?_
 rintro e w4 ⟨rfl, hb4⟩
 refine ⟨_, rfl, ?_⟩
 have hS4 : (fun w' => w'.heap[gb]? = some (.cells (chA x (.slice A3 x.f2.length c3)) 32 (0, 0)) ∧ w'.cell? ⟨g, 2, none⟩ = some (.map (some mb)) ∧ w'.heap[mb]? = some (.map (es.map entE).toArray cc)) w4 := ⟨blk_below hHeld.1 hb4, (hb4.cell (World.block_lt_of_cell? _ _ hHeld.2.1)).trans hHeld.2.1, blk_below hHeld.2.2 hb4⟩
 have HB4 := Aside0.mk (HB3.out.trans (hb4.mono HB3.out.size))
 clear hb4
 refine hK.out _ _ (hS4) (fun hHeld => ?_)
 clear hK K
 refine norm_ (a' := ?_) ?_ ?_
 rotate_left
 ·show Act.put _ (some 39) _ = _
  simp only [Act.put, List.setIfInBounds_toArray, List.set_cons_zero, List.set_cons_succ, i64_w, i32_w]
  rfl
 refine take_ (i := 18) (N := (some 40)) (v := ?_) (a' := ?_) #[true, true, true, true, true, true, true, true, true, true, true, true, true, true, true, true, true, true, true, false, false, false] rfl rfl (take_ofW HT_.out HW_.out (by kernel_rfl)) (fun _ _ _ h => h) (Or.inl ⟨by rfl, ?_⟩) hHeld ?_ ?_
 rotate_left
 ·rintro w' ⟨s0, s1, s2⟩
  have hl_ : (Instr.lookup 69 (.map (some mb)) (.agg #[.int .i64 x.f0.f1, .int .i64 x.f1]) false).run Try.prog w' = .ok (.int .i64 0) w' := by
   have h_ := look_run (show MapE w' mb es cc from s2) (keyOf x)
   rw [HOWN.out] at h_
   exact h_
  go_simp
  rfl
 rotate_left
 ·simp only [Act.put, List.setIfInBounds_toArray, List.set_cons_zero, List.set_cons_succ, i64_w, i32_w]
  rfl
 refine pureS (i := 19) (N := (some 41)) #[true, true, true, true, true, true, true, true, true, true, true, true, true, true, true, true, true, true, true, true, false, false] HT_ ?_
 refine pureS (i := 20) (N := (some 42)) #[true, true, true, true, true, true, true, true, true, true, true, true, true, true, true, true, true, true, true, true, true, false] HT_ ?_
 refine pureS (i := 21) (N := (some 43)) #[true, true, true, true, true, true, true, true, true, true, true, true, true, true, true, true, true, true, true, true, true, true] HT_ ?_
 refine done_ (done_of HT_.out (by kernel_rfl)) ?_
 have HX4 := Aside0.mk hS4.1
 clear hS4 hS3 hHeld

 go_wp2_with (first | ((with_reducible refine gate_dst (N := 45) rfl ?_); refine load32_ev rfl (N := 45) rfl x (.slice A3 x.f2.length c3) (p := .tmp 5) rfl (ad := ⟨gb, 0, none⟩) rfl (blk_cells HX4.out) ?_) | (go_at_call 37; (with_reducible refine (causal_ready.calls 71 A0 c0 known x.f0.f0 x.f0.f1 x.f1 A3 c3 x.f2 x.f3 x.f4.f0 x.f4.f1 x.f5.f0 x.f5.f1 x.f6.f0 x.f6.f1 x.f7 x.f8 _ _ (Kd.C_below HK.out HB4.out) HKC.out (Kd.C_below HC3.out HB4.out) HL3.out HRD.out).mono ?_); rintro e w5 ⟨rfl, hb5⟩; have HB5 := Aside0.mk (HB4.out.trans (hb5.mono HB4.out.size)); have HX5 := Aside0.mk (blk_below HX4.out hb5); clear hb5) | ((with_reducible refine gate_dst (N := 49) rfl ?_); refine load32_ev rfl (N := 49) rfl x (.slice A3 x.f2.length c3) (p := .tmp 5) rfl (ad := ⟨gb, 0, none⟩) rfl (blk_cells HX5.out) ?_) | (go_at_call 39; (with_reducible refine (change_Copy.calls x.f0.f0 x.f0.f1 x.f1 A3 c3 x.f2 x.f3 x.f4.f0 x.f4.f1 x.f5.f0 x.f5.f1 x.f6.f0 x.f6.f1 x.f7 x.f8 x.f0.f0 x.f0.f1 x.f1 x.f2 x.f3 x.f4.f0 x.f4.f1 x.f5.f0 x.f5.f1 x.f6.f0 x.f6.f1 x.f7 x.f8 _ (Kd.C_below HC3.out HB5.out) HL3.out HCP.out).mono ?_); rintro e w6 ⟨v6, rfl, hv6, hb6⟩; obtain ⟨A6, c6, rfl⟩ := Kd.R_slice hv6; have HV6 := Aside0.mk (Kd.R_mono (Kd.R_bound hv6) (ok' := fun k => w5.heap.size ≤ k ∧ k < w6.heap.size) (fun k hk => ⟨hk.2.1, hk.2.2.1⟩)); have HB6 := Aside0.mk (HB5.out.trans (hb6.mono HB5.out.size)); clear hv6 hb6) | (go_at_call 38; (with_reducible refine (release_calls (HBUF.out.bound.below HB6.out) HN.out A0 c0 known (Kd.C_below HK.out HB6.out) HKC.out x A6 c6 (Kd.R_lower HV6.out (Nat.le_trans HBUF.out.base_le HB5.out.size)) ?hxp H64.out).mono ?_); (case hxp => exact fun k hk hp => by have h1_ := HB5.out.size; omega); rintro e w7 ⟨P', O, v7, rfl, hr1, hr2, hr3, hr4, hr5, hr6⟩; have HR1 := Aside0.mk hr1; have HR2 := Aside0.mk hr2; have HR3 := Aside0.mk hr3; have HR4 := Aside0.mk hr4; have HR5 := Aside0.mk hr5; have HR6 := Aside0.mk hr6; clear hr1 hr2 hr3 hr4 hr5 hr6))
 go_ret2
 refine ⟨P', O, v7, rfl, HR1.out, HR2.out, fun k hk => .inl (HR3.out k hk).1, HR4.out, fun k hk => ?_, (Kept.of_below HB6.out P).then_ HR6.out (fun k hk => .inl hk.1)⟩
 have h5 := HB5.out.size
 have h6 := HB6.out.size
 rcases HR5.out k hk with h_ | h_ | h_
 ·exact .inr (by omega)
 ·exact .inl h_.1
 ·exact .inr (by omega)
set_option maxHeartbeats 8000000 in
set_option maxRecDepth 100000 in
theorem take_full {w : World} {base : Nat} {P : Nat → Prop} {g : Nat} {room : Int} {l : List S32} (hB : BufI w base P g room l) (A0 : Option Addr) (c0 : Nat) (known : List Int) (hk : Kd.C (Kd.int .i64) w A0 known.length known) (hkc : known.length ≤ c0)
  (x : S32) (A3 : Option Addr) (c3 : Nat) (hx : Kd.C (Kd.int .i64) w A3 x.f2.length x.f2) (hx3 : x.f2.length ≤ c3) (hs : x.f7.size < 4611686018427387904) (hc : chkC known = 0) (hc2 : checkX x = 0) (hw : withinX known x = false) (ho : ownX l x = false) (hr : ripeC known x = false) (hf : room ≤ l.length) :
  Calls Try.prog 13 #[.pointer (some ⟨g, 0, none⟩), .slice A0 known.length c0, (.agg #[.int .i64 x.f0.f0, .int .i64 x.f0.f1, .int .i64 x.f1, (.slice A3 x.f2.length c3), .int .i64 x.f3, .int .i64 x.f4.f0, .int .i64 x.f4.f1, .int .i64 x.f5.f0, .int .i64 x.f5.f1, .int .i64 x.f6.f0, .int .i64 x.f6.f1, .string x.f7, .string x.f8])] w (TakeB w base P g room (l, [], 6)) := by
 have HBUF := Aside0.mk hB
 have HK := Aside0.mk hk
 have HKC := Aside0.mk hkc
 have HC3 := Aside0.mk hx
 have HL3 := Aside0.mk hx3
 have HCK := Aside0.mk (clock_Check_is known 66 (by decide))
 rw [hc] at HCK
 have HCE := Aside0.mk (change_Check_is (x.f7.size + 200) x.f0.f0 x.f0.f1 x.f1 x.f2 x.f3 x.f4.f0 x.f4.f1 x.f5.f0 x.f5.f1 x.f6.f0 x.f6.f1 x.f7 x.f8 hs (by omega) (by omega))
 rw [show checkC x.f0.f0 x.f0.f1 x.f1 x.f2 x.f3 x.f4.f0 x.f4.f1 x.f5.f0 x.f5.f1 x.f6.f0 x.f6.f1 x.f7 x.f8 = checkX x from rfl, hc2] at HCE
 have HX64 := Aside0.mk (check_ok hc2)
 have HCH := Aside0.mk hc
 obtain ⟨at_, hat_⟩ : ∃ a, atC known x.f0.f1 = a := ⟨_, rfl⟩
 have HAT := Aside0.mk (clock_At_is known x.f0.f1)
 rw [hat_] at HAT
 have hwx : withinX known x = decide (x.f1 ≤ at_) := by unfold withinX; rw [hat_]
 clear hat_

 rw [hw] at hwx
 have d1 : decide (x.f1 ≤ at_) = false := hwx.symm
 obtain ⟨mb, es, cc, A, ch, hO⟩ := HBUF.out.opened
 have HO := Aside0.mk hO
 clear hO

 have hown : valP es (keyOf x) = .int .i64 0 := by
  rw [HO.out.ok.val, if_neg (of_decide_eq_false ho)]
 have HOWN := Aside0.mk hown
 have HRD := Aside0.mk (ready_is (known := known) (x := x) hc (check_ok hc2).2.2.2.2.2 71 (by decide))

 rw [hr] at HRD
 have d3 : decide (room ≤ (l.length : Int)) = true := decide_eq_true hf
 have d4 : decide ((l.length : Int) ≥ room) = true := decide_eq_true hf
 clear hB hk hkc hx hx3 hs hc hc2 hw hwx ho hown hr hf
 go_enter Try.func13, Try.ntmps13
 go_wp2_with (first | ((with_reducible refine gate_dst (N := 5) rfl ?_); refine box_event ?hg (N := 5) ?hd (cs := #[.int .i64 x.f0.f0, .int .i64 x.f0.f1, .int .i64 x.f1, (.slice A3 x.f2.length c3), .int .i64 x.f3, .int .i64 x.f4.f0, .int .i64 x.f4.f1, .int .i64 x.f5.f0, .int .i64 x.f5.f1, .int .i64 x.f6.f0, .int .i64 x.f6.f1, .string x.f7, .string x.f8]) (t := 32) ?hr ?_; (case hd => rfl); (case hg => rfl); (case hr => first | (go_simp; done) | (go_simp; rfl)); intro gb hr_ w0 hbox hb; have HXgb := Aside0.mk hbox; have HBgb := Aside0.mk hb; have HNgb := Aside0.mk (Nat.le_of_eq hr_.symm); clear hbox hb hr_) | (go_at_call 33; (with_reducible refine (clock_Check.calls 66 A0 c0 known _ _ (Kd.C_below HK.out HBgb.out) HKC.out HCK.out).mono ?_); rintro e w1 ⟨rfl, ⟨nd, hnd⟩⟩; have HB1 := Aside0.mk (show Below w.heap.size w w1 by rw [hnd]; exact pw_below_drewN HBgb.out nd); have HX1 := Aside0.mk (show w1.heap[gb]? = some (.cells (chA x (.slice A3 x.f2.length c3)) 32 (0, 0)) by rw [hnd]; exact HXgb.out); clear hnd nd) | ((with_reducible refine gate_dst (N := 17) rfl ?_); refine load32_ev rfl (N := 17) rfl x (.slice A3 x.f2.length c3) (p := .tmp 5) rfl (ad := ⟨gb, 0, none⟩) rfl (blk_cells HX1.out) ?_) | (go_at_call 34; (with_reducible refine (change_Check.calls (x.f7.size + 200) x.f0.f0 x.f0.f1 x.f1 A3 c3 x.f2 x.f3 x.f4.f0 x.f4.f1 x.f5.f0 x.f5.f1 x.f6.f0 x.f6.f1 x.f7 x.f8 _ _ (Kd.C_below HC3.out HB1.out) HL3.out HCE.out).mono ?_); rintro e w2 ⟨rfl, hb2⟩; have HB2 := Aside0.mk (HB1.out.trans (hb2.mono HB1.out.size)); have HX2 := Aside0.mk (blk_below HX1.out hb2); clear hb2))

 refine start_ (n := 22) (S := (fun w' => w'.heap[gb]? = some (.cells (chA x (.slice A3 x.f2.length c3)) 32 (0, 0)) ∧ w'.cell? ⟨g, 2, none⟩ = some (.map (some mb)) ∧ w'.heap[mb]? = some (.map (es.map entE).toArray cc))) (ds := []) #[false, false, false, false, false, false, false, false, false, false, false, false, false, false, false, false, false, false, false, false, false, false] (by kernel_rfl) rfl rfl (⟨HX2.out, (blk_cell (blk_below HO.out.blk HB2.out) 2).trans rfl, blk_below HO.out.map (below_drew HB2.out)⟩) (fun hHeld => ?_)
 refine with_tabW tka.tab7 tka.bits7 (fun HT_ HW_ => ?_)
 refine pureS (i := 0) (N := (some 22)) #[true, false, false, false, false, false, false, false, false, false, false, false, false, false, false, false, false, false, false, false, false, false] HT_ ?_
 refine pureS (i := 2) (N := (some 24)) #[true, false, true, false, false, false, false, false, false, false, false, false, false, false, false, false, false, false, false, false, false, false] HT_ ?_
 refine pureS (i := 3) (N := (some 25)) #[true, false, true, true, false, false, false, false, false, false, false, false, false, false, false, false, false, false, false, false, false, false] HT_ ?_
 refine pureS (i := 4) (N := (some 26)) #[true, false, true, true, true, false, false, false, false, false, false, false, false, false, false, false, false, false, false, false, false, false] HT_ ?_
 refine take_ (i := 1) (N := (some 23)) (v := ?_) (a' := ?_) #[true, true, true, true, true, false, false, false, false, false, false, false, false, false, false, false, false, false, false, false, false, false] rfl rfl (take_ofW HT_.out HW_.out (by kernel_rfl)) (fun _ _ _ h => h) (Or.inl ⟨by rfl, ?_⟩) hHeld ?_ ?_
 rotate_left
 ·rintro w' ⟨s0, s1, s2⟩; have f1 : w'.cell? ⟨gb, 2, none⟩ = some (.int .i64 x.f1) := (blk_cell s0 2).trans rfl; have f2 : w'.cell? ⟨gb, 1, none⟩ = some (.int .i64 x.f0.f1) := (blk_cell s0 1).trans rfl
  go_simp
  with_reducible rfl
 rotate_left
 ·simp only [Act.put, List.setIfInBounds_toArray, List.set_cons_zero, List.set_cons_succ, i64_w, i32_w]
  rfl
 refine take_ (i := 5) (N := (some 27)) (v := ?_) (a' := ?_) #[true, true, true, true, true, true, false, false, false, false, false, false, false, false, false, false, false, false, false, false, false, false] rfl rfl (take_ofW HT_.out HW_.out (by kernel_rfl)) (fun _ _ _ h => h) (Or.inl ⟨by rfl, ?_⟩) hHeld ?_ ?_
 rotate_left
 ·rintro w' ⟨s0, s1, s2⟩; have f1 : w'.cell? ⟨gb, 2, none⟩ = some (.int .i64 x.f1) := (blk_cell s0 2).trans rfl; have f2 : w'.cell? ⟨gb, 1, none⟩ = some (.int .i64 x.f0.f1) := (blk_cell s0 1).trans rfl
  go_simp
  with_reducible rfl
 rotate_left
 ·simp only [Act.put, List.setIfInBounds_toArray, List.set_cons_zero, List.set_cons_succ, i64_w, i32_w]
  rfl
 refine one_ (i := 6) (N := (some 28)) #[true, true, true, true, true, true, true, false, false, false, false, false, false, false, false, false, false, false, false, false, false, false] rfl rfl (one_of HT_.out (by kernel_rfl)) (by decide) (fun K hK => ?_)
 refine goes_ Try.func35 (by kernel_rfl) rfl #[.slice A0 known.length c0, .int .i64 x.f0.f1] (by rfl) rfl rfl (by (try simp only [List.map_toArray, List.map_cons, List.map_nil]); first | done | rfl) ?_
 refine (clock_At.calls A0 c0 known x.f0.f1 _ _ (Kd.C_drew (Kd.C_below HK.out HB2.out)) HKC.out HAT.out).mono ?_
 rintro e w3 ⟨rfl, ⟨nd2, hnd2⟩⟩
 refine ⟨_, rfl, ?_⟩
 have HB3 := Aside0.mk (show Below w.heap.size w w3 by rw [hnd2]; exact pw_below_drewN (below_drew HB2.out) nd2)
 have hS3 : (fun w' => w'.heap[gb]? = some (.cells (chA x (.slice A3 x.f2.length c3)) 32 (0, 0)) ∧ w'.cell? ⟨g, 2, none⟩ = some (.map (some mb)) ∧ w'.heap[mb]? = some (.map (es.map entE).toArray cc)) w3 := by rw [hnd2]; exact ⟨hHeld.1, hHeld.2.1, hHeld.2.2⟩
 clear hnd2
 refine hK.out _ _ (hS3) (fun hHeld => ?_)
 clear hK K
 refine norm_ (a' := ?_) ?_ ?_
 rotate_left
 ·show Act.put _ (some 28) _ = _
  simp only [Act.put, List.setIfInBounds_toArray, List.set_cons_zero, List.set_cons_succ, i64_w, i32_w]
  rfl
 refine pureS (i := 7) (N := (some 29)) #[true, true, true, true, true, true, true, true, false, false, false, false, false, false, false, false, false, false, false, false, false, false] HT_ ?_
 refine pureS (i := 8) (N := (some 30)) #[true, true, true, true, true, true, true, true, true, false, false, false, false, false, false, false, false, false, false, false, false, false] HT_ ?_
 refine pureS (i := 9) (N := (some 31)) #[true, true, true, true, true, true, true, true, true, true, false, false, false, false, false, false, false, false, false, false, false, false] HT_ ?_
 refine pureS (i := 10) (N := (some 32)) #[true, true, true, true, true, true, true, true, true, true, true, false, false, false, false, false, false, false, false, false, false, false] HT_ ?_
 refine pureS (i := 11) (N := (some 33)) #[true, true, true, true, true, true, true, true, true, true, true, true, false, false, false, false, false, false, false, false, false, false] HT_ ?_
 refine pureS (i := 12) (N := (some 34)) #[true, true, true, true, true, true, true, true, true, true, true, true, true, false, false, false, false, false, false, false, false, false] HT_ ?_
 refine pureS (i := 13) (N := (some 35)) #[true, true, true, true, true, true, true, true, true, true, true, true, true, true, false, false, false, false, false, false, false, false] HT_ ?_
 refine pureS (i := 14) (N := (some 36)) #[true, true, true, true, true, true, true, true, true, true, true, true, true, true, true, false, false, false, false, false, false, false] HT_ ?_
 refine take_ (i := 15) (N := (some 37)) (v := ?_) (a' := ?_) #[true, true, true, true, true, true, true, true, true, true, true, true, true, true, true, true, false, false, false, false, false, false] rfl rfl (take_ofW HT_.out HW_.out (by kernel_rfl)) (fun _ _ _ h => h) (Or.inl ⟨by rfl, ?_⟩) hHeld ?_ ?_
 rotate_left
 ·rintro w' ⟨s0, s1, s2⟩; have f1 : w'.cell? ⟨gb, 2, none⟩ = some (.int .i64 x.f1) := (blk_cell s0 2).trans rfl; have f2 : w'.cell? ⟨gb, 1, none⟩ = some (.int .i64 x.f0.f1) := (blk_cell s0 1).trans rfl
  go_simp
  with_reducible rfl
 rotate_left
 ·simp only [Act.put, List.setIfInBounds_toArray, List.set_cons_zero, List.set_cons_succ, i64_w, i32_w]
  rfl
 refine take_ (i := 16) (N := (some 38)) (v := ?_) (a' := ?_) #[true, true, true, true, true, true, true, true, true, true, true, true, true, true, true, true, true, false, false, false, false, false] rfl rfl (take_ofW HT_.out HW_.out (by kernel_rfl)) (fun _ _ _ h => h) (Or.inl ⟨by rfl, ?_⟩) hHeld ?_ ?_
 rotate_left
 ·rintro w' ⟨s0, s1, s2⟩
  refine Eq.trans (load32_run (x := x) (v := (.slice A3 x.f2.length c3)) _ (p := .tmp 5) ?ho_ ?hp_ (blk_cells s0)) ?hr_
  case ho_ => rfl
  case hp_ => rfl
  case hr_ => rfl
 rotate_left
 ·simp only [Act.put, List.setIfInBounds_toArray, List.set_cons_zero, List.set_cons_succ, i64_w, i32_w]
  rfl
 refine one_ (i := 17) (N := (some 39)) #[true, true, true, true, true, true, true, true, true, true, true, true, true, true, true, true, true, true, false, false, false, false] rfl rfl (one_of HT_.out (by kernel_rfl)) (by decide) (fun K hK => ?_)
 refine goes_ Try.func36 (by kernel_rfl) rfl #[(.agg #[.int .i64 x.f0.f0, .int .i64 x.f0.f1, .int .i64 x.f1, (.slice A3 x.f2.length c3), .int .i64 x.f3, .int .i64 x.f4.f0, .int .i64 x.f4.f1, .int .i64 x.f5.f0, .int .i64 x.f5.f1, .int .i64 x.f6.f0, .int .i64 x.f6.f1, .string x.f7, .string x.f8])] (by rfl) rfl rfl (by (try simp only [List.map_toArray, List.map_cons, List.map_nil]); first | done | rfl) ?_
 refine (causal_of.calls x.f0.f0 x.f0.f1 x.f1 A3 c3 x.f2 x.f3 x.f4.f0 x.f4.f1 x.f5.f0 x.f5.f1 x.f6.f0 x.f6.f1 x.f7 x.f8 x.f0.f1 x.f1 _ (Kd.C_below HC3.out HB3.out) HL3.out rfl).mono ?_
 rintro e w4 ⟨rfl, hb4⟩
 refine ⟨_, rfl, ?_⟩
 have hS4 : (fun w' => w'.heap[gb]? = some (.cells (chA x (.slice A3 x.f2.length c3)) 32 (0, 0)) ∧ w'.cell? ⟨g, 2, none⟩ = some (.map (some mb)) ∧ w'.heap[mb]? = some (.map (es.map entE).toArray cc)) w4 := ⟨blk_below hHeld.1 hb4, (hb4.cell (World.block_lt_of_cell? _ _ hHeld.2.1)).trans hHeld.2.1, blk_below hHeld.2.2 hb4⟩
 have HB4 := Aside0.mk (HB3.out.trans (hb4.mono HB3.out.size))
 clear hb4
 refine hK.out _ _ (hS4) (fun hHeld => ?_)
 clear hK K
 refine norm_ (a' := ?_) ?_ ?_
 rotate_left
 ·show Act.put _ (some 39) _ = _
  simp only [Act.put, List.setIfInBounds_toArray, List.set_cons_zero, List.set_cons_succ, i64_w, i32_w]
  rfl
 refine take_ (i := 18) (N := (some 40)) (v := ?_) (a' := ?_) #[true, true, true, true, true, true, true, true, true, true, true, true, true, true, true, true, true, true, true, false, false, false] rfl rfl (take_ofW HT_.out HW_.out (by kernel_rfl)) (fun _ _ _ h => h) (Or.inl ⟨by rfl, ?_⟩) hHeld ?_ ?_
 rotate_left
 ·rintro w' ⟨s0, s1, s2⟩
  have hl_ : (Instr.lookup 69 (.map (some mb)) (.agg #[.int .i64 x.f0.f1, .int .i64 x.f1]) false).run Try.prog w' = .ok (.int .i64 0) w' := by
   have h_ := look_run (show MapE w' mb es cc from s2) (keyOf x)
   rw [HOWN.out] at h_
   exact h_
  go_simp
  rfl
 rotate_left
 ·simp only [Act.put, List.setIfInBounds_toArray, List.set_cons_zero, List.set_cons_succ, i64_w, i32_w]
  rfl
 refine pureS (i := 19) (N := (some 41)) #[true, true, true, true, true, true, true, true, true, true, true, true, true, true, true, true, true, true, true, true, false, false] HT_ ?_
 refine pureS (i := 20) (N := (some 42)) #[true, true, true, true, true, true, true, true, true, true, true, true, true, true, true, true, true, true, true, true, true, false] HT_ ?_
 refine pureS (i := 21) (N := (some 43)) #[true, true, true, true, true, true, true, true, true, true, true, true, true, true, true, true, true, true, true, true, true, true] HT_ ?_
 refine done_ (done_of HT_.out (by kernel_rfl)) ?_
 have HX4 := Aside0.mk hS4.1
 clear hS4 hS3 hHeld

 go_wp2_with (first | ((with_reducible refine gate_dst (N := 45) rfl ?_); refine load32_ev rfl (N := 45) rfl x (.slice A3 x.f2.length c3) (p := .tmp 5) rfl (ad := ⟨gb, 0, none⟩) rfl (blk_cells HX4.out) ?_) | (go_at_call 37; (with_reducible refine (causal_ready.calls 71 A0 c0 known x.f0.f0 x.f0.f1 x.f1 A3 c3 x.f2 x.f3 x.f4.f0 x.f4.f1 x.f5.f0 x.f5.f1 x.f6.f0 x.f6.f1 x.f7 x.f8 _ _ (Kd.C_below HK.out HB4.out) HKC.out (Kd.C_below HC3.out HB4.out) HL3.out HRD.out).mono ?_); rintro e w5 ⟨rfl, hb5⟩; have HB5 := Aside0.mk (HB4.out.trans (hb5.mono HB4.out.size)); have HX5 := Aside0.mk (blk_below HX4.out hb5); clear hb5) | (go_at_call 16; (with_reducible refine (len_calls (HBUF.out.below HB5.out)).mono ?_); rintro e w6 ⟨rfl, rfl⟩) | (go_at_call 40; (with_reducible refine (room_calls (HBUF.out.below HB5.out)).mono ?_); rintro e w7 ⟨rfl, rfl⟩))
 go_ret2
 exact TakeB.err HBUF.out HB5.out
theorem put_ne {w : World} {base : Nat} {P : Nat → Prop} {g : Nat} {room : Int} {l : List S32} {mb : Nat} {es : List ((Nat × KeyP) × Int)} {c : Nat} {A : Option Addr} {ch : Nat} (h : BufO w base P g room l mb es c A ch) : some g ≠ (Value.slice A l.length ch).ownBlock := fun e => ((Kd.S_R h.row).1 g e.symm).2.1 rfl
theorem put_ne2 {w : World} {base : Nat} {P : Nat → Prop} {g : Nat} {room : Int} {l : List S32} {mb : Nat} {es : List ((Nat × KeyP) × Int)} {c : Nat} {A : Option Addr} {ch gb : Nat} (h : BufO w base P g room l mb es c A ch) (hgb : w.heap.size ≤ gb) : some gb ≠ (Value.slice A l.length ch).ownBlock := fun e => by
 have := ((Kd.S_R h.row).1 gb e.symm).1.2
 omega
theorem put_blk {w w7 : World} {base : Nat} {P : Nat → Prop} {g : Nat} {room : Int} {l : List S32} {mb : Nat} {es : List ((Nat × KeyP) × Int)} {c : Nat} {A : Option Addr} {ch : Nat} (h : BufO w base P g room l mb es c A ch) (hb : Below w.heap.size w w7) {o : Obj} : (w7.alloc o).heap[g]? = some (.cells #[.int .i64 room, .slice A l.length ch, .map (some mb)] 71 (0, 0)) := Mem.alloc_old (blk_below h.blk hb) o
theorem findP_new {es : List ((Nat × KeyP) × Int)} {k : KeyP} {c : Nat} {v : Int} : ∀ {i : Nat}, findP es k i = none → findP (es ++ [((c, k), v)]) k i = some (i + es.length, .int .i64 v) := by
 induction es with
 | nil =>
  intro i _
  have hs : sameK k k = true := sameK_iff.2 rfl
  simp [findP, hs]
 | cons e t ih =>
  intro i h
  unfold findP at h
  rw [List.cons_append]
  unfold findP
  by_cases hs : sameK k e.1.2 = true
  ·rw [if_pos hs] at h; cases h
  ·rw [if_neg hs] at h ⊢
   rw [ih h, List.length_cons, show i + 1 + t.length = i + (t.length + 1) from by omega]
theorem valP_new {es : List ((Nat × KeyP) × Int)} {k : KeyP} {c : Nat} {v : Int} (h : findP es k 0 = none) : valP (es ++ [((c, k), v)]) k = .int .i64 v := by
 unfold valP
 rw [findP_new h]
/-- The buffer in the midst of put: the change is in the row, the map knows nothing of it. -/
structure PutM (w : World) (base : Nat) (P : Nat → Prop) (g : Nat) (room : Int) (l' : List S32) (mb : Nat) (es : List ((Nat × KeyP) × Int)) (c : Nat) (A9 : Option Addr) (c9 : Nat) (w10 : World) : Prop where
 blk : w10.heap[g]? = some (.cells #[.int .i64 room, .slice A9 l'.length c9, .map (some mb)] 71 (0, 0))
 map : MapE w10 mb es c
 row : Kd.S k32 32 w10 base (fun k => ((P k ∧ k < w.heap.size) ∧ k ≠ g ∧ k ≠ mb) ∨ w.heap.size ≤ k) (.slice A9 l'.length c9) l'
 kept : Kept w w10 P
theorem put_mid {w w7 w9 : World} {base : Nat} {P : Nat → Prop} {g : Nat} {room : Int} {l l' : List S32} {mb : Nat} {es : List ((Nat × KeyP) × Int)} {c : Nat} {A A9 : Option Addr} {ch c9 : Nat} {o : Obj} (h : BufO w base P g room l mb es c A ch) (hb7 : Below w.heap.size w w7)
  (hs : Kd.S k32 32 w9 base (fun k => ((P k ∧ k < w.heap.size) ∧ k ≠ g ∧ k ≠ mb) ∨ w.heap.size ≤ k) (.slice A9 l'.length c9) l') (hg : (w7.alloc o).grownBy w9 (Value.slice A l.length ch).ownBlock) :
  PutM w base P g room l' mb es c A9 c9 (w9.setCell ⟨g, 1, none⟩ (.slice A9 l'.length c9)) := by
 have hgw := blk_lt h.blk
 have hmw := blk_lt h.map
 have hmo : some mb ≠ (Value.slice A l.length ch).ownBlock := fun e => ((Kd.S_R h.row).1 mb e.symm).2.2 rfl
 refine ⟨blk_put (blk_grown (put_blk h hb7) hg (put_ne h)) 1 _ rfl, ?_, ?_, ?_⟩
 ·unfold MapE
  rw [Below.heap_setCell w9 ⟨g, 1, none⟩ _ mb (Ne.symm h.ne), hg.block mb (by rw [Mem.alloc_size]; have := hb7.size; omega) hmo]
  exact Mem.alloc_old (blk_below h.map hb7) o
 ·refine Kd.S_far hs (fun k hk => ?_) _
  rcases hk with hk | hk
  ·exact hk.2.1
  ·intro e
   have e' : k = g := e
   omega
 ·refine Kept.setCell (Kept.of_grown hg ((Kept.of_below hb7 P).alloc o) (fun k hk => .inl ((Kd.S_R h.row).1 k hk).1.1)) (.inl h.Pg) _
theorem put_fin {w w10 w11 : World} {base : Nat} {P : Nat → Prop} {g : Nat} {room : Int} {l : List S32} {i : Nat} {x : S32} {mb : Nat} {es : List ((Nat × KeyP) × Int)} {c : Nat} {A A9 : Option Addr} {ch c9 : Nat} {o : Obj} (h : BufO w base P g room l mb es c A ch) (hm : PutM w base P g room (l.take i ++ x :: l.drop i) mb es c A9 c9 w10) (hb : Below w10.heap.size w10 w11) (hno : keyOf x ∉ l.map keyOf) :
  TakeB w base P g room (l.take i ++ x :: l.drop i, [], 0) (.returned (.tuple #[.slice none 0 0, .int .i64 0])) ((w11.putObj mb o).putObj mb (.map ((es ++ [((c, keyOf x), 1)]).map entE).toArray (c + 1))) := by
 have hk : Kept w ((w11.putObj mb o).putObj mb (.map ((es ++ [((c, keyOf x), 1)]).map entE).toArray (c + 1))) P := ((hm.kept.below hb).putObj mb _ (.inl h.Pm)).putObj mb _ (.inl h.Pm)
 have hfar : ∀ k, k ≠ mb → k < w10.heap.size → ((w11.putObj mb o).putObj mb (.map ((es ++ [((c, keyOf x), 1)]).map entE).toArray (c + 1))).heap[k]? = w10.heap[k]? := fun k hk hlt => by
  rw [putObj_other _ _ _ _ hk, putObj_other _ _ _ _ hk, hb.block k hlt]
 have hmw := blk_lt h.map
 have hgw := blk_lt h.blk
 refine ⟨fun k => P k ∨ w.heap.size ≤ k, fun _ => False, .slice none 0 0, rfl, ?_, Kd.S_nil _ _ _ _ _, fun _ hk => hk, fun _ hk => hk.elim, fun _ hk => hk.elim, hk⟩
 refine ⟨mb, es ++ [((c, keyOf x), 1)], c + 1, A9, c9, (hfar g h.ne (blk_lt hm.blk)).trans hm.blk, h.bg, .inl h.Pg, h.bm, .inl h.Pm, ?_, h.ok.more hno (List.perm_middle.trans (by rw [List.take_append_drop])), ?_⟩
 ·refine putObj_at _ _ _ ?_
  have : (w11.putObj mb o).heap.size = w11.heap.size := by simp [World.putObj]
  rw [this]
  exact Nat.lt_of_lt_of_le (blk_lt hm.map) hb.size
 ·refine Kd.S_mono (Kd.S_step hm.row (fun k hk hlt => hfar k ?_ hlt)) (fun k hk => ?_)
  ·rcases hk with hk | hk
   ·exact hk.2.2
   ·omega
  ·rcases hk with hk | hk
   ·exact ⟨.inl hk.1.1, hk.2.1⟩
   ·exact ⟨.inr hk, by omega⟩
theorem put_insert {w w6 w7 : World} {base : Nat} {P : Nat → Prop} {g : Nat} {room : Int} {l : List S32} {mb : Nat} {es : List ((Nat × KeyP) × Int)} {c : Nat} {A : Option Addr} {ch : Nat} (h : BufO w base P g room l mb es c A ch) (hb6 : Below w.heap.size w w6) (hb7 : Below w.heap.size w w7) {x : S32} {A7 : Option Addr} {c7 : Nat}
  (hv : (Kd.int .i64).R 3 w7 w6.drew.heap.size (fun k => w6.drew.heap.size ≤ k ∧ k < w7.heap.size) (.slice A7 x.f2.length c7) x.f2) {i : Nat} (hi : i ≤ l.length) (hn : l.length < 1000) :
  Calls Try.prog 43 #[.slice A l.length ch, .int .i64 (i : Int), .slice (some ⟨w7.heap.size, 0, none⟩) 1 1] (w7.alloc (.cells (chA x (.slice A7 x.f2.length c7)) 32)) fun e w' => ∃ v', e = .returned v' ∧ Kd.S k32 32 w' base (fun k => ((P k ∧ k < w.heap.size) ∧ k ≠ g ∧ k ≠ mb) ∨ w.heap.size ≤ k) v' (l.take i ++ x :: l.drop i) ∧ (w7.alloc (.cells (chA x (.slice A7 x.f2.length c7)) 32)).grownBy w' (Value.slice A l.length ch).ownBlock := by
 have h6 : w.heap.size ≤ w6.drew.heap.size := hb6.size
 have h7 := hb7.size
 have hbs := h.shut.base_le
 have hrow := Kd.S_alloc (Kd.S_below (Kd.S_mono h.row (ok' := fun k => (((P k ∧ k < w.heap.size) ∧ k ≠ g ∧ k ≠ mb) ∨ w.heap.size ≤ k) ∧ ¬ (w6.drew.heap.size ≤ k ∧ k < w7.heap.size)) (fun k hk => ⟨.inl hk, fun h2 => by have := hk.1.2; omega⟩)) hb7) (.cells (chA x (.slice A7 x.f2.length c7)) 32)
 have hM := chMk (x := x) (Kd.R_lower (Kd.R_below hv (below_alloc (Below.refl _ _) (.cells (chA x (.slice A7 x.f2.length c7)) 32))) (Nat.le_trans hbs h6))
 refine (insert_S hrow hi (by omega) hM (fun k hk => .inr (by omega)) (fun k hk => .inr (by rw [Mem.alloc_size] at hk; omega)) w7.heap.size (put_ne2 h h7) (Mem.alloc_new _ _) (by rw [Mem.alloc_size]; omega)).mono ?_
 rintro e w' ⟨v', he, hs, hg, _⟩
 exact ⟨v', he, hs, hg⟩
set_option maxHeartbeats 8000000 in
set_option maxRecDepth 100000 in
theorem take_put {w : World} {base : Nat} {P : Nat → Prop} {g : Nat} {room : Int} {l : List S32} (hB : BufI w base P g room l) (A0 : Option Addr) (c0 : Nat) (known : List Int) (hk : Kd.C (Kd.int .i64) w A0 known.length known) (hkc : known.length ≤ c0)
  (x : S32) (A3 : Option Addr) (c3 : Nat) (hx : Kd.C (Kd.int .i64) w A3 x.f2.length x.f2) (hx3 : x.f2.length ≤ c3) (hs : x.f7.size < 4611686018427387904) (hc : chkC known = 0) (hc2 : checkX x = 0) (hw : withinX known x = false) (ho : ownX l x = false) (hr : ripeC known x = false) (hf : ¬ room ≤ l.length) (hn : l.length < 1000)
  (hbn : ∀ y ∈ l, 0 ≤ y.f1 ∧ y.f1 ≤ 1099511627776) (hmono : ∀ a b, a ≤ b → b < l.length → cmpX (rd_T32 l (b : Nat)) x < 0 → cmpX (rd_T32 l (a : Nat)) x < 0) {X : Nat → Prop} (hxF : Kd.F (Kd.int .i64) w X A3 x.f2.length x.f2) (hXP : ∀ k, X k → ¬ P k) :
  Calls Try.prog 13 #[.pointer (some ⟨g, 0, none⟩), .slice A0 known.length c0, (.agg #[.int .i64 x.f0.f0, .int .i64 x.f0.f1, .int .i64 x.f1, (.slice A3 x.f2.length c3), .int .i64 x.f3, .int .i64 x.f4.f0, .int .i64 x.f4.f1, .int .i64 x.f5.f0, .int .i64 x.f5.f1, .int .i64 x.f6.f0, .int .i64 x.f6.f1, .string x.f7, .string x.f8])] w (TakeB w base P g room (l.take (cntX x l) ++ x :: l.drop (cntX x l), [], 0)) := by
 have HBUF := Aside0.mk hB
 have HK := Aside0.mk hk
 have HKC := Aside0.mk hkc
 have HC3 := Aside0.mk hx
 have HL3 := Aside0.mk hx3
 have HCK := Aside0.mk (clock_Check_is known 66 (by decide))
 rw [hc] at HCK
 have HCE := Aside0.mk (change_Check_is (x.f7.size + 200) x.f0.f0 x.f0.f1 x.f1 x.f2 x.f3 x.f4.f0 x.f4.f1 x.f5.f0 x.f5.f1 x.f6.f0 x.f6.f1 x.f7 x.f8 hs (by omega) (by omega))
 rw [show checkC x.f0.f0 x.f0.f1 x.f1 x.f2 x.f3 x.f4.f0 x.f4.f1 x.f5.f0 x.f5.f1 x.f6.f0 x.f6.f1 x.f7 x.f8 = checkX x from rfl, hc2] at HCE
 have HX64 := Aside0.mk (check_ok hc2)
 have HCH := Aside0.mk hc
 obtain ⟨at_, hat_⟩ : ∃ a, atC known x.f0.f1 = a := ⟨_, rfl⟩
 have HAT := Aside0.mk (clock_At_is known x.f0.f1)
 rw [hat_] at HAT
 have hwx : withinX known x = decide (x.f1 ≤ at_) := by unfold withinX; rw [hat_]
 clear hat_

 rw [hw] at hwx
 have d1 : decide (x.f1 ≤ at_) = false := hwx.symm
 obtain ⟨mb, es, cc, A, ch, hO⟩ := HBUF.out.opened
 have HO := Aside0.mk hO
 clear hO

 have hown : valP es (keyOf x) = .int .i64 0 := by
  rw [HO.out.ok.val, if_neg (of_decide_eq_false ho)]
 have HOWN := Aside0.mk hown
 have HRD := Aside0.mk (ready_is (known := known) (x := x) hc (check_ok hc2).2.2.2.2.2 71 (by decide))

 rw [hr] at HRD
 have d3 : decide (room ≤ (l.length : Int)) = false := decide_eq_false hf
 have d4 : decide ((l.length : Int) ≥ room) = false := decide_eq_false hf
 have HXF := Aside0.mk hxF
 have HXP := Aside0.mk hXP
 have HN := Aside0.mk hn
 have HBN := Aside0.mk hbn
 have HMON := Aside0.mk hmono
 have HBX : Aside0 (0 ≤ x.f1 ∧ x.f1 ≤ 1099511627776) := ⟨by have h_ := check_ok hc2; omega⟩
 have HCP := Aside0.mk (copy_is x (check_ok hc2).2.2.2.2.2)
 have HIX : Aside0 (cntX x l ≤ l.length) := ⟨List.countP_le_length⟩
 have HNO : Aside0 (keyOf x ∉ l.map keyOf) := ⟨of_decide_eq_false ho⟩
 clear hB hk hkc hx hx3 hs hc hc2 hw hwx ho hown hr hf hn hbn hmono hxF hXP
 go_enter Try.func13, Try.ntmps13
 go_wp2_with (first | ((with_reducible refine gate_dst (N := 5) rfl ?_); refine box_event ?hg (N := 5) ?hd (cs := #[.int .i64 x.f0.f0, .int .i64 x.f0.f1, .int .i64 x.f1, (.slice A3 x.f2.length c3), .int .i64 x.f3, .int .i64 x.f4.f0, .int .i64 x.f4.f1, .int .i64 x.f5.f0, .int .i64 x.f5.f1, .int .i64 x.f6.f0, .int .i64 x.f6.f1, .string x.f7, .string x.f8]) (t := 32) ?hr ?_; (case hd => rfl); (case hg => rfl); (case hr => first | (go_simp; done) | (go_simp; rfl)); intro gb hr_ w0 hbox hb; have HXgb := Aside0.mk hbox; have HBgb := Aside0.mk hb; have HNgb := Aside0.mk (Nat.le_of_eq hr_.symm); clear hbox hb hr_) | (go_at_call 33; (with_reducible refine (clock_Check.calls 66 A0 c0 known _ _ (Kd.C_below HK.out HBgb.out) HKC.out HCK.out).mono ?_); rintro e w1 ⟨rfl, ⟨nd, hnd⟩⟩; have HB1 := Aside0.mk (show Below w.heap.size w w1 by rw [hnd]; exact pw_below_drewN HBgb.out nd); have HX1 := Aside0.mk (show w1.heap[gb]? = some (.cells (chA x (.slice A3 x.f2.length c3)) 32 (0, 0)) by rw [hnd]; exact HXgb.out); clear hnd nd) | ((with_reducible refine gate_dst (N := 17) rfl ?_); refine load32_ev rfl (N := 17) rfl x (.slice A3 x.f2.length c3) (p := .tmp 5) rfl (ad := ⟨gb, 0, none⟩) rfl (blk_cells HX1.out) ?_) | (go_at_call 34; (with_reducible refine (change_Check.calls (x.f7.size + 200) x.f0.f0 x.f0.f1 x.f1 A3 c3 x.f2 x.f3 x.f4.f0 x.f4.f1 x.f5.f0 x.f5.f1 x.f6.f0 x.f6.f1 x.f7 x.f8 _ _ (Kd.C_below HC3.out HB1.out) HL3.out HCE.out).mono ?_); rintro e w2 ⟨rfl, hb2⟩; have HB2 := Aside0.mk (HB1.out.trans (hb2.mono HB1.out.size)); have HX2 := Aside0.mk (blk_below HX1.out hb2); clear hb2))

 refine start_ (n := 22) (S := (fun w' => w'.heap[gb]? = some (.cells (chA x (.slice A3 x.f2.length c3)) 32 (0, 0)) ∧ w'.cell? ⟨g, 2, none⟩ = some (.map (some mb)) ∧ w'.heap[mb]? = some (.map (es.map entE).toArray cc))) (ds := []) #[false, false, false, false, false, false, false, false, false, false, false, false, false, false, false, false, false, false, false, false, false, false] (by kernel_rfl) rfl rfl (⟨HX2.out, (blk_cell (blk_below HO.out.blk HB2.out) 2).trans rfl, blk_below HO.out.map (below_drew HB2.out)⟩) (fun hHeld => ?_)
 refine with_tabW tka.tab7 tka.bits7 (fun HT_ HW_ => ?_)
 refine pureS (i := 0) (N := (some 22)) #[true, false, false, false, false, false, false, false, false, false, false, false, false, false, false, false, false, false, false, false, false, false] HT_ ?_
 refine pureS (i := 2) (N := (some 24)) #[true, false, true, false, false, false, false, false, false, false, false, false, false, false, false, false, false, false, false, false, false, false] HT_ ?_
 refine pureS (i := 3) (N := (some 25)) #[true, false, true, true, false, false, false, false, false, false, false, false, false, false, false, false, false, false, false, false, false, false] HT_ ?_
 refine pureS (i := 4) (N := (some 26)) #[true, false, true, true, true, false, false, false, false, false, false, false, false, false, false, false, false, false, false, false, false, false] HT_ ?_
 refine take_ (i := 1) (N := (some 23)) (v := ?_) (a' := ?_) #[true, true, true, true, true, false, false, false, false, false, false, false, false, false, false, false, false, false, false, false, false, false] rfl rfl (take_ofW HT_.out HW_.out (by kernel_rfl)) (fun _ _ _ h => h) (Or.inl ⟨by rfl, ?_⟩) hHeld ?_ ?_
 rotate_left
 ·rintro w' ⟨s0, s1, s2⟩; have f1 : w'.cell? ⟨gb, 2, none⟩ = some (.int .i64 x.f1) := (blk_cell s0 2).trans rfl; have f2 : w'.cell? ⟨gb, 1, none⟩ = some (.int .i64 x.f0.f1) := (blk_cell s0 1).trans rfl
  go_simp
  with_reducible rfl
 rotate_left
 ·simp only [Act.put, List.setIfInBounds_toArray, List.set_cons_zero, List.set_cons_succ, i64_w, i32_w]
  rfl
 refine take_ (i := 5) (N := (some 27)) (v := ?_) (a' := ?_) #[true, true, true, true, true, true, false, false, false, false, false, false, false, false, false, false, false, false, false, false, false, false] rfl rfl (take_ofW HT_.out HW_.out (by kernel_rfl)) (fun _ _ _ h => h) (Or.inl ⟨by rfl, ?_⟩) hHeld ?_ ?_
 rotate_left
 ·rintro w' ⟨s0, s1, s2⟩; have f1 : w'.cell? ⟨gb, 2, none⟩ = some (.int .i64 x.f1) := (blk_cell s0 2).trans rfl; have f2 : w'.cell? ⟨gb, 1, none⟩ = some (.int .i64 x.f0.f1) := (blk_cell s0 1).trans rfl
  go_simp
  with_reducible rfl
 rotate_left
 ·simp only [Act.put, List.setIfInBounds_toArray, List.set_cons_zero, List.set_cons_succ, i64_w, i32_w]
  rfl
 refine one_ (i := 6) (N := (some 28)) #[true, true, true, true, true, true, true, false, false, false, false, false, false, false, false, false, false, false, false, false, false, false] rfl rfl (one_of HT_.out (by kernel_rfl)) (by decide) (fun K hK => ?_)
 refine goes_ Try.func35 (by kernel_rfl) rfl #[.slice A0 known.length c0, .int .i64 x.f0.f1] (by rfl) rfl rfl (by (try simp only [List.map_toArray, List.map_cons, List.map_nil]); first | done | rfl) ?_
 refine (clock_At.calls A0 c0 known x.f0.f1 _ _ (Kd.C_drew (Kd.C_below HK.out HB2.out)) HKC.out HAT.out).mono ?_
 rintro e w3 ⟨rfl, ⟨nd2, hnd2⟩⟩
 refine ⟨_, rfl, ?_⟩
 have HB3 := Aside0.mk (show Below w.heap.size w w3 by rw [hnd2]; exact pw_below_drewN (below_drew HB2.out) nd2)
 have hS3 : (fun w' => w'.heap[gb]? = some (.cells (chA x (.slice A3 x.f2.length c3)) 32 (0, 0)) ∧ w'.cell? ⟨g, 2, none⟩ = some (.map (some mb)) ∧ w'.heap[mb]? = some (.map (es.map entE).toArray cc)) w3 := by rw [hnd2]; exact ⟨hHeld.1, hHeld.2.1, hHeld.2.2⟩
 clear hnd2
 refine hK.out _ _ (hS3) (fun hHeld => ?_)
 clear hK K
 refine norm_ (a' := ?_) ?_ ?_
 rotate_left
 ·show Act.put _ (some 28) _ = _
  simp only [Act.put, List.setIfInBounds_toArray, List.set_cons_zero, List.set_cons_succ, i64_w, i32_w]
  rfl
 refine pureS (i := 7) (N := (some 29)) #[true, true, true, true, true, true, true, true, false, false, false, false, false, false, false, false, false, false, false, false, false, false] HT_ ?_
 refine pureS (i := 8) (N := (some 30)) #[true, true, true, true, true, true, true, true, true, false, false, false, false, false, false, false, false, false, false, false, false, false] HT_ ?_
 refine pureS (i := 9) (N := (some 31)) #[true, true, true, true, true, true, true, true, true, true, false, false, false, false, false, false, false, false, false, false, false, false] HT_ ?_
 refine pureS (i := 10) (N := (some 32)) #[true, true, true, true, true, true, true, true, true, true, true, false, false, false, false, false, false, false, false, false, false, false] HT_ ?_
 refine pureS (i := 11) (N := (some 33)) #[true, true, true, true, true, true, true, true, true, true, true, true, false, false, false, false, false, false, false, false, false, false] HT_ ?_
 refine pureS (i := 12) (N := (some 34)) #[true, true, true, true, true, true, true, true, true, true, true, true, true, false, false, false, false, false, false, false, false, false] HT_ ?_
 refine pureS (i := 13) (N := (some 35)) #[true, true, true, true, true, true, true, true, true, true, true, true, true, true, false, false, false, false, false, false, false, false] HT_ ?_
 refine pureS (i := 14) (N := (some 36)) #[true, true, true, true, true, true, true, true, true, true, true, true, true, true, true, false, false, false, false, false, false, false] HT_ ?_
 refine take_ (i := 15) (N := (some 37)) (v := ?_) (a' := ?_) #[true, true, true, true, true, true, true, true, true, true, true, true, true, true, true, true, false, false, false, false, false, false] rfl rfl (take_ofW HT_.out HW_.out (by kernel_rfl)) (fun _ _ _ h => h) (Or.inl ⟨by rfl, ?_⟩) hHeld ?_ ?_
 rotate_left
 ·rintro w' ⟨s0, s1, s2⟩; have f1 : w'.cell? ⟨gb, 2, none⟩ = some (.int .i64 x.f1) := (blk_cell s0 2).trans rfl; have f2 : w'.cell? ⟨gb, 1, none⟩ = some (.int .i64 x.f0.f1) := (blk_cell s0 1).trans rfl
  go_simp
  with_reducible rfl
 rotate_left
 ·simp only [Act.put, List.setIfInBounds_toArray, List.set_cons_zero, List.set_cons_succ, i64_w, i32_w]
  rfl
 refine take_ (i := 16) (N := (some 38)) (v := ?_) (a' := ?_) #[true, true, true, true, true, true, true, true, true, true, true, true, true, true, true, true, true, false, false, false, false, false] rfl rfl (take_ofW HT_.out HW_.out (by kernel_rfl)) (fun _ _ _ h => h) (Or.inl ⟨by rfl, ?_⟩) hHeld ?_ ?_
 rotate_left
 ·rintro w' ⟨s0, s1, s2⟩
  refine Eq.trans (load32_run (x := x) (v := (.slice A3 x.f2.length c3)) _ (p := .tmp 5) ?ho_ ?hp_ (blk_cells s0)) ?hr_
  case ho_ => rfl
  case hp_ => rfl
  case hr_ => rfl
 rotate_left
 ·simp only [Act.put, List.setIfInBounds_toArray, List.set_cons_zero, List.set_cons_succ, i64_w, i32_w]
  rfl
 refine one_ (i := 17) (N := (some 39)) #[true, true, true, true, true, true, true, true, true, true, true, true, true, true, true, true, true, true, false, false, false, false] rfl rfl (one_of HT_.out (by kernel_rfl)) (by decide) (fun K hK => ?_)
 refine goes_ Try.func36 (by kernel_rfl) rfl #[(.agg #[.int .i64 x.f0.f0, .int .i64 x.f0.f1, .int .i64 x.f1, (.slice A3 x.f2.length c3), .int .i64 x.f3, .int .i64 x.f4.f0, .int .i64 x.f4.f1, .int .i64 x.f5.f0, .int .i64 x.f5.f1, .int .i64 x.f6.f0, .int .i64 x.f6.f1, .string x.f7, .string x.f8])] (by rfl) rfl rfl (by (try simp only [List.map_toArray, List.map_cons, List.map_nil]); first | done | rfl) ?_
 refine (causal_of.calls x.f0.f0 x.f0.f1 x.f1 A3 c3 x.f2 x.f3 x.f4.f0 x.f4.f1 x.f5.f0 x.f5.f1 x.f6.f0 x.f6.f1 x.f7 x.f8 x.f0.f1 x.f1 _ (Kd.C_below HC3.out HB3.out) HL3.out rfl).mono ?_
 rintro e w4 ⟨rfl, hb4⟩
 refine ⟨_, rfl, ?_⟩
 have hS4 : (fun w' => w'.heap[gb]? = some (.cells (chA x (.slice A3 x.f2.length c3)) 32 (0, 0)) ∧ w'.cell? ⟨g, 2, none⟩ = some (.map (some mb)) ∧ w'.heap[mb]? = some (.map (es.map entE).toArray cc)) w4 := ⟨blk_below hHeld.1 hb4, (hb4.cell (World.block_lt_of_cell? _ _ hHeld.2.1)).trans hHeld.2.1, blk_below hHeld.2.2 hb4⟩
 have HB4 := Aside0.mk (HB3.out.trans (hb4.mono HB3.out.size))
 clear hb4
 refine hK.out _ _ (hS4) (fun hHeld => ?_)
 clear hK K
 refine norm_ (a' := ?_) ?_ ?_
 rotate_left
 ·show Act.put _ (some 39) _ = _
  simp only [Act.put, List.setIfInBounds_toArray, List.set_cons_zero, List.set_cons_succ, i64_w, i32_w]
  rfl
 refine take_ (i := 18) (N := (some 40)) (v := ?_) (a' := ?_) #[true, true, true, true, true, true, true, true, true, true, true, true, true, true, true, true, true, true, true, false, false, false] rfl rfl (take_ofW HT_.out HW_.out (by kernel_rfl)) (fun _ _ _ h => h) (Or.inl ⟨by rfl, ?_⟩) hHeld ?_ ?_
 rotate_left
 ·rintro w' ⟨s0, s1, s2⟩
  have hl_ : (Instr.lookup 69 (.map (some mb)) (.agg #[.int .i64 x.f0.f1, .int .i64 x.f1]) false).run Try.prog w' = .ok (.int .i64 0) w' := by
   have h_ := look_run (show MapE w' mb es cc from s2) (keyOf x)
   rw [HOWN.out] at h_
   exact h_
  go_simp
  rfl
 rotate_left
 ·simp only [Act.put, List.setIfInBounds_toArray, List.set_cons_zero, List.set_cons_succ, i64_w, i32_w]
  rfl
 refine pureS (i := 19) (N := (some 41)) #[true, true, true, true, true, true, true, true, true, true, true, true, true, true, true, true, true, true, true, true, false, false] HT_ ?_
 refine pureS (i := 20) (N := (some 42)) #[true, true, true, true, true, true, true, true, true, true, true, true, true, true, true, true, true, true, true, true, true, false] HT_ ?_
 refine pureS (i := 21) (N := (some 43)) #[true, true, true, true, true, true, true, true, true, true, true, true, true, true, true, true, true, true, true, true, true, true] HT_ ?_
 refine done_ (done_of HT_.out (by kernel_rfl)) ?_
 have HX4 := Aside0.mk hS4.1
 clear hS4 hS3 hHeld

 go_wp2_with (first | ((with_reducible refine gate_dst (N := 45) rfl ?_); refine load32_ev rfl (N := 45) rfl x (.slice A3 x.f2.length c3) (p := .tmp 5) rfl (ad := ⟨gb, 0, none⟩) rfl (blk_cells HX4.out) ?_) | (go_at_call 37; (with_reducible refine (causal_ready.calls 71 A0 c0 known x.f0.f0 x.f0.f1 x.f1 A3 c3 x.f2 x.f3 x.f4.f0 x.f4.f1 x.f5.f0 x.f5.f1 x.f6.f0 x.f6.f1 x.f7 x.f8 _ _ (Kd.C_below HK.out HB4.out) HKC.out (Kd.C_below HC3.out HB4.out) HL3.out HRD.out).mono ?_); rintro e w5 ⟨rfl, hb5⟩; have HB5 := Aside0.mk (HB4.out.trans (hb5.mono HB4.out.size)); have HX5 := Aside0.mk (blk_below HX4.out hb5); clear hb5) | (go_at_call 16; (with_reducible refine (len_calls (HBUF.out.below HB5.out)).mono ?_); rintro e w6 ⟨rfl, rfl⟩) | (go_at_call 40; (with_reducible refine (room_calls (HBUF.out.below HB5.out)).mono ?_); rintro e w7 ⟨rfl, rfl⟩))
 refine start_ (n := 11) (S := (fun w' => w'.cell? ⟨g, 1, none⟩ = some (.slice A l.length ch) ∧ w'.heap[gb]? = some (.cells (chA x (.slice A3 x.f2.length c3)) 32 (0, 0)))) (ds := []) #[false, false, false, false, false, false, false, false, false, false, false] (by kernel_rfl) rfl rfl (⟨(blk_cell (blk_below HO.out.blk HB5.out) 1).trans rfl, HX5.out⟩) (fun hHeld => ?_)
 refine with_tabW tkb.tab13 tkb.bits13 (fun HT_ HW_ => ?_)
 refine pureS (i := 0) (N := (some 58)) #[true, false, false, false, false, false, false, false, false, false, false] HT_ ?_
 refine pureS (i := 1) (N := (some 59)) #[true, true, false, false, false, false, false, false, false, false, false] HT_ ?_
 refine pureS (i := 2) (N := (some 60)) #[true, true, true, false, false, false, false, false, false, false, false] HT_ ?_
 refine take_ (i := 3) (N := (some 61)) (v := ?_) (a' := ?_) #[true, true, true, true, false, false, false, false, false, false, false] rfl rfl (take_ofW HT_.out HW_.out (by kernel_rfl)) (fun _ _ _ h => h) (Or.inl ⟨by rfl, ?_⟩) hHeld ?_ ?_
 rotate_left
 ·rintro w' ⟨s0, s1⟩
  go_simp
  with_reducible rfl
 rotate_left
 ·simp only [Act.put, List.setIfInBounds_toArray, List.set_cons_zero, List.set_cons_succ, i64_w, i32_w]
  rfl
 refine take_ (i := 4) (N := (some 62)) (v := ?_) (a' := ?_) #[true, true, true, true, true, false, false, false, false, false, false] rfl rfl (take_ofW HT_.out HW_.out (by kernel_rfl)) (fun _ _ _ h => h) (Or.inl ⟨by rfl, ?_⟩) hHeld ?_ ?_
 rotate_left
 ·rintro w' ⟨s0, s1⟩
  refine Eq.trans (load32_run (x := x) (v := (.slice A3 x.f2.length c3)) _ (p := .tmp 5) ?ho_ ?hp_ (blk_cells s1)) ?hr_
  case ho_ => rfl
  case hp_ => rfl
  case hr_ => rfl
 rotate_left
 ·simp only [Act.put, List.setIfInBounds_toArray, List.set_cons_zero, List.set_cons_succ, i64_w, i32_w]
  rfl
 refine one_ (i := 5) (N := (some 63)) #[true, true, true, true, true, true, false, false, false, false, false] rfl rfl (one_of HT_.out (by kernel_rfl)) (by decide) (fun K hK => ?_)
 refine goes_ Try.func41 (by kernel_rfl) rfl #[.slice A l.length ch, (.agg #[.int .i64 x.f0.f0, .int .i64 x.f0.f1, .int .i64 x.f1, (.slice A3 x.f2.length c3), .int .i64 x.f3, .int .i64 x.f4.f0, .int .i64 x.f4.f1, .int .i64 x.f5.f0, .int .i64 x.f5.f1, .int .i64 x.f6.f0, .int .i64 x.f6.f1, .string x.f7, .string x.f8]), .func (.func 42) #[] #[]] (by rfl) rfl rfl (by (try simp only [List.map_toArray, List.map_cons, List.map_nil]); first | done | rfl) ?_
 refine (search_calls (Kd.S_below HO.out.row (below_drew HB5.out)) HN.out x A3 c3 (Kd.C_below HC3.out (below_drew HB5.out)) HL3.out HBN.out HBX.out HMON.out).mono ?_
 rintro e w6 ⟨bf, rfl, hb6⟩
 refine ⟨_, rfl, ?_⟩
 have hS6 : (fun w' => w'.cell? ⟨g, 1, none⟩ = some (.slice A l.length ch) ∧ w'.heap[gb]? = some (.cells (chA x (.slice A3 x.f2.length c3)) 32 (0, 0))) w6 := ⟨(hb6.cell (World.block_lt_of_cell? _ _ hHeld.1)).trans hHeld.1, blk_below hHeld.2 hb6⟩
 have HB6 := Aside0.mk ((below_drew HB5.out).trans (hb6.mono (below_drew HB5.out).size))
 clear hb6
 refine hK.out _ _ (hS6) (fun hHeld => ?_)
 clear hK K
 refine norm_ (a' := ?_) ?_ ?_
 rotate_left
 ·show Act.put _ (some 63) _ = _
  simp only [Act.put, List.setIfInBounds_toArray, List.set_cons_zero, List.set_cons_succ, i64_w, i32_w]
  rfl
 refine pureS (i := 6) (N := (some 57)) #[true, true, true, true, true, true, true, false, false, false, false] HT_ ?_
 refine pureS (i := 7) (N := (some 64)) #[true, true, true, true, true, true, true, true, false, false, false] HT_ ?_
 refine pureS (i := 8) (N := (some 65)) #[true, true, true, true, true, true, true, true, true, false, false] HT_ ?_
 refine pureS (i := 9) (N := (some 10)) #[true, true, true, true, true, true, true, true, true, true, false] HT_ ?_
 refine pureS (i := 10) (N := (some 11)) #[true, true, true, true, true, true, true, true, true, true, true] HT_ ?_
 refine done_ (done_of HT_.out (by kernel_rfl)) ?_
 go_wp2_with (fail)
 refine start_ (n := 13) (S := (fun w' => w'.cell? ⟨g, 1, none⟩ = some (.slice A l.length ch) ∧ w'.heap[gb]? = some (.cells (chA x (.slice A3 x.f2.length c3)) 32 (0, 0)))) (ds := [12]) #[false, false, false, false, false, false, false, false, false, false, false, false, false] (by kernel_rfl) rfl rfl (⟨hS6.1, hS6.2⟩) (fun hHeld => ?_)
 refine with_tabW tkc.tab14 tkc.bits14 (fun HT_ HW_ => ?_)
 refine pureS (i := 0) (N := (some 66)) #[true, false, false, false, false, false, false, false, false, false, false, false, false] HT_ ?_
 refine pureS (i := 1) (N := (some 67)) #[true, true, false, false, false, false, false, false, false, false, false, false, false] HT_ ?_
 refine pureS (i := 2) (N := (some 68)) #[true, true, true, false, false, false, false, false, false, false, false, false, false] HT_ ?_
 refine pureS (i := 3) (N := (some 69)) #[true, true, true, true, false, false, false, false, false, false, false, false, false] HT_ ?_
 refine pureS (i := 5) (N := (some 71)) #[true, true, true, true, false, true, false, false, false, false, false, false, false] HT_ ?_
 refine take_ (i := 4) (N := (some 70)) (v := ?_) (a' := ?_) #[true, true, true, true, true, true, false, false, false, false, false, false, false] rfl rfl (take_ofW HT_.out HW_.out (by kernel_rfl)) (fun _ _ _ h => h) (Or.inl ⟨by rfl, ?_⟩) hHeld ?_ ?_
 rotate_left
 ·rintro w' ⟨s0, s1⟩
  go_simp
  with_reducible rfl
 rotate_left
 ·simp only [Act.put, List.setIfInBounds_toArray, List.set_cons_zero, List.set_cons_succ, i64_w, i32_w]
  rfl
 refine take_ (i := 6) (N := (some 72)) (v := ?_) (a' := ?_) #[true, true, true, true, true, true, true, false, false, false, false, false, false] rfl rfl (take_ofW HT_.out HW_.out (by kernel_rfl)) (fun _ _ _ h => h) (Or.inl ⟨by rfl, ?_⟩) hHeld ?_ ?_
 rotate_left
 ·rintro w' ⟨s0, s1⟩
  refine Eq.trans (load32_run (x := x) (v := (.slice A3 x.f2.length c3)) _ (p := .tmp 5) ?ho_ ?hp_ (blk_cells s1)) ?hr_
  case ho_ => rfl
  case hp_ => rfl
  case hr_ => rfl
 rotate_left
 ·simp only [Act.put, List.setIfInBounds_toArray, List.set_cons_zero, List.set_cons_succ, i64_w, i32_w]
  rfl
 refine one_ (i := 7) (N := (some 73)) #[true, true, true, true, true, true, true, true, false, false, false, false, false] rfl rfl (one_of HT_.out (by kernel_rfl)) (by decide) (fun K hK => ?_)
 refine goes_ Try.func39 (by kernel_rfl) rfl #[(.agg #[.int .i64 x.f0.f0, .int .i64 x.f0.f1, .int .i64 x.f1, (.slice A3 x.f2.length c3), .int .i64 x.f3, .int .i64 x.f4.f0, .int .i64 x.f4.f1, .int .i64 x.f5.f0, .int .i64 x.f5.f1, .int .i64 x.f6.f0, .int .i64 x.f6.f1, .string x.f7, .string x.f8])] (by rfl) rfl rfl (by (try simp only [List.map_toArray, List.map_cons, List.map_nil]); first | done | rfl) ?_
 refine (change_Copy.calls x.f0.f0 x.f0.f1 x.f1 A3 c3 x.f2 x.f3 x.f4.f0 x.f4.f1 x.f5.f0 x.f5.f1 x.f6.f0 x.f6.f1 x.f7 x.f8 x.f0.f0 x.f0.f1 x.f1 x.f2 x.f3 x.f4.f0 x.f4.f1 x.f5.f0 x.f5.f1 x.f6.f0 x.f6.f1 x.f7 x.f8 _ (Kd.C_below HC3.out (below_drew HB6.out)) HL3.out HCP.out).mono ?_
 rintro e w7 ⟨v7, rfl, hv7, hb7⟩
 obtain ⟨A7, c7, rfl⟩ := Kd.R_slice hv7
 refine ⟨_, rfl, ?_⟩
 have hS7 : (fun w' => w'.cell? ⟨g, 1, none⟩ = some (.slice A l.length ch) ∧ w'.heap[gb]? = some (.cells (chA x (.slice A3 x.f2.length c3)) 32 (0, 0))) w7 := ⟨(hb7.cell (World.block_lt_of_cell? _ _ hHeld.1)).trans hHeld.1, blk_below hHeld.2 hb7⟩
 have HV7 := Aside0.mk (Kd.R_mono (Kd.R_bound hv7) (ok' := fun k => w6.drew.heap.size ≤ k ∧ k < w7.heap.size) (fun k hk => ⟨hk.2.1, hk.2.2.1⟩))
 have HB7 := Aside0.mk ((below_drew HB6.out).trans (hb7.mono (below_drew HB6.out).size))
 clear hv7 hb7
 refine hK.out _ _ (hS7) (fun hHeld => ?_)
 clear hK K
 refine norm_ (a' := ?_) ?_ ?_
 rotate_left
 ·show Act.put _ (some 73) _ = _
  simp only [Act.put, List.setIfInBounds_toArray, List.set_cons_zero, List.set_cons_succ, i64_w, i32_w]
  rfl
 refine one_ (i := 8) (N := (some 74)) #[true, true, true, true, true, true, true, true, true, false, false, false, false] rfl rfl (one_of HT_.out (by kernel_rfl)) (by decide) (fun K hK => ?_)
 refine value_ (w1 := ?_) (v := ?_) (by rfl) rfl ?_ ?_
 rotate_left 2
 ·go_simp
  constructor
  ·rfl
  ·rfl
 refine hK.out _ _ (⟨Mem.cell_alloc hHeld.1 _, Mem.alloc_old hHeld.2 _⟩) (fun hHeld => ?_)
 clear hK K
 refine norm_ (a' := ?_) ?_ ?_
 rotate_left
 ·show Act.put _ (some 74) _ = _
  simp only [Act.put, List.setIfInBounds_toArray, List.set_cons_zero, List.set_cons_succ, i64_w, i32_w]
  rfl
 refine one_ (i := 9) (N := (some 75)) #[true, true, true, true, true, true, true, true, true, true, false, false, false] rfl rfl (one_of HT_.out (by kernel_rfl)) (by decide) (fun K hK => ?_)
 refine goes_ Try.func43 (by kernel_rfl) rfl #[.slice A l.length ch, .int .i64 ((cntX x l : Nat) : Int), .slice (some ⟨w7.heap.size, 0, none⟩) 1 1] (by rfl) rfl rfl (by (try simp only [List.map_toArray, List.map_cons, List.map_nil]); first | done | rfl) ?_
 refine (put_insert HO.out HB6.out HB7.out HV7.out HIX.out HN.out).mono ?_
 rintro e w9 ⟨v9, rfl, hs9, hg9⟩
 refine ⟨_, rfl, ?_⟩
 obtain ⟨A9, c9, rfl⟩ := Kd.S_slice hs9
 have hgo := put_ne HO.out
 have hgbn := put_ne2 HO.out HNgb.out
 have hS9 : (fun w' => w'.cell? ⟨g, 1, none⟩ = some (.slice A l.length ch) ∧ w'.heap[gb]? = some (.cells (chA x (.slice A3 x.f2.length c3)) 32 (0, 0))) w9 := ⟨hg9.cell hHeld.1 hgo, blk_grown hHeld.2 hg9 hgbn⟩
 have HS9 := Aside0.mk hs9
 have HG9 := Aside0.mk hg9
 have cz := hS9.1
 have fz := blk_frozen (blk_grown (put_blk HO.out HB7.out) hg9 hgo) 1
 clear hs9 hg9 hgo hgbn
 refine hK.out _ _ (hS9) (fun hHeld => ?_)
 clear hK K
 refine norm_ (a' := ?_) ?_ ?_
 rotate_left
 ·show Act.put _ (some 75) _ = _
  simp only [Act.put, List.setIfInBounds_toArray, List.set_cons_zero, List.set_cons_succ, i64_w, i32_w]
  rfl
 refine pureS (i := 10) (N := (some 76)) #[true, true, true, true, true, true, true, true, true, true, true, false, false] HT_ ?_
 refine pureS (i := 11) (N := (some 77)) #[true, true, true, true, true, true, true, true, true, true, true, true, false] HT_ ?_
 refine last_ (i := 12) (N := none) #[true, true, true, true, true, true, true, true, true, true, true, true, true] rfl rfl (one_of HT_.out (by kernel_rfl)) (by decide) (fun K hK => ?_)
 refine skip_ (w1 := w9.setCell ⟨g, 1, none⟩ (.slice A9 (l.take (cntX x l) ++ x :: l.drop (cntX x l)).length c9)) (by rfl) rfl ?_ ?_
 ·go_simp
 refine hK.out _ _ ?_
 clear hK K
 refine done_ (done_of HT_.out (by kernel_rfl)) ?_
 have hmid := put_mid (A9 := A9) (c9 := c9) HO.out HB7.out HS9.out HG9.out
 have hX10 := blk_far (p := ⟨g, 1, none⟩) hS9.2 (fun e => by have h1_ := blk_lt HO.out.blk; have h2_ := HNgb.out; have h3_ : gb = g := e; omega) (.slice A9 (l.take (cntX x l) ++ x :: l.drop (cntX x l)).length c9)
 clear hHeld hS9 hS7 hS6 cz fz HS9 HG9
 generalize w9.setCell ⟨g, 1, none⟩ (.slice A9 (l.take (cntX x l) ++ x :: l.drop (cntX x l)).length c9) = w10 at *
 have HMID := Aside0.mk hmid
 have HX10 := Aside0.mk hX10
 have HC10 := Aside0.mk (Kd.C_drew (Kd.F_now (Kd.F_kept HXF.out hmid.kept.old HXP.out)))
 have hfp : findP es (keyOf x) 0 = none := findP_none (fun hm => HNO.out ((HO.out.ok.mem _).1 hm))
 have HFP := Aside0.mk hfp
 clear hmid hX10 hfp
 go_wp2_with (fail)
 refine start_ (n := 11) (S := (fun w' => w'.heap[gb]? = some (.cells (chA x (.slice A3 x.f2.length c3)) 32 (0, 0)) ∧ w'.cell? ⟨g, 2, none⟩ = some (.map (some mb)))) (ds := []) #[false, false, false, false, false, false, false, false, false, false, false] (by kernel_rfl) rfl rfl (⟨HX10.out, (blk_cell HMID.out.blk 2).trans rfl⟩) (fun hHeld => ?_)
 refine with_tabW tkd.tab15 tkd.bits15 (fun HT_ HW_ => ?_)
 refine pureS (i := 0) (N := (some 78)) #[true, false, false, false, false, false, false, false, false, false, false] HT_ ?_
 refine pureS (i := 1) (N := (some 79)) #[true, true, false, false, false, false, false, false, false, false, false] HT_ ?_
 refine pureS (i := 2) (N := (some 80)) #[true, true, true, false, false, false, false, false, false, false, false] HT_ ?_
 refine take_ (i := 3) (N := (some 81)) (v := ?_) (a' := ?_) #[true, true, true, true, false, false, false, false, false, false, false] rfl rfl (take_ofW HT_.out HW_.out (by kernel_rfl)) (fun _ _ _ h => h) (Or.inl ⟨by rfl, ?_⟩) hHeld ?_ ?_
 rotate_left
 ·rintro w' ⟨s0, s1⟩
  go_simp
  with_reducible rfl
 rotate_left
 ·simp only [Act.put, List.setIfInBounds_toArray, List.set_cons_zero, List.set_cons_succ, i64_w, i32_w]
  rfl
 refine take_ (i := 4) (N := (some 82)) (v := ?_) (a' := ?_) #[true, true, true, true, true, false, false, false, false, false, false] rfl rfl (take_ofW HT_.out HW_.out (by kernel_rfl)) (fun _ _ _ h => h) (Or.inl ⟨by rfl, ?_⟩) hHeld ?_ ?_
 rotate_left
 ·rintro w' ⟨s0, s1⟩
  refine Eq.trans (load32_run (x := x) (v := (.slice A3 x.f2.length c3)) _ (p := .tmp 5) ?ho_ ?hp_ (blk_cells s0)) ?hr_
  case ho_ => rfl
  case hp_ => rfl
  case hr_ => rfl
 rotate_left
 ·simp only [Act.put, List.setIfInBounds_toArray, List.set_cons_zero, List.set_cons_succ, i64_w, i32_w]
  rfl
 refine one_ (i := 5) (N := (some 83)) #[true, true, true, true, true, true, false, false, false, false, false] rfl rfl (one_of HT_.out (by kernel_rfl)) (by decide) (fun K hK => ?_)
 refine goes_ Try.func36 (by kernel_rfl) rfl #[(.agg #[.int .i64 x.f0.f0, .int .i64 x.f0.f1, .int .i64 x.f1, (.slice A3 x.f2.length c3), .int .i64 x.f3, .int .i64 x.f4.f0, .int .i64 x.f4.f1, .int .i64 x.f5.f0, .int .i64 x.f5.f1, .int .i64 x.f6.f0, .int .i64 x.f6.f1, .string x.f7, .string x.f8])] (by rfl) rfl rfl (by (try simp only [List.map_toArray, List.map_cons, List.map_nil]); first | done | rfl) ?_
 refine (causal_of.calls x.f0.f0 x.f0.f1 x.f1 A3 c3 x.f2 x.f3 x.f4.f0 x.f4.f1 x.f5.f0 x.f5.f1 x.f6.f0 x.f6.f1 x.f7 x.f8 x.f0.f1 x.f1 _ HC10.out HL3.out rfl).mono ?_
 rintro e w11 ⟨rfl, hb11⟩
 refine ⟨_, rfl, ?_⟩
 have hS11 : (fun w' => w'.heap[gb]? = some (.cells (chA x (.slice A3 x.f2.length c3)) 32 (0, 0)) ∧ w'.cell? ⟨g, 2, none⟩ = some (.map (some mb))) w11 := ⟨blk_below hHeld.1 hb11, (hb11.cell (World.block_lt_of_cell? _ _ hHeld.2)).trans hHeld.2⟩
 have HB11 := Aside0.mk ((below_drew (Below.refl w10.heap.size w10)).trans (hb11.mono (Nat.le_refl _)))
 have hM11 : MapE w11 mb es cc := blk_below (w := w10) HMID.out.map HB11.out
 have hl_ : (Instr.lookup 69 (.map (some mb)) (.agg #[.int .i64 x.f0.f1, .int .i64 x.f1]) false).run Try.prog w11 = .ok (.int .i64 0) w11 := by
  have h_ := look_run hM11 (keyOf x)
  rw [HOWN.out] at h_
  exact h_
 have he_ : (Instr.mapEntry 69 (.map (some mb)) (.agg #[.int .i64 x.f0.f1, .int .i64 x.f1])).run Try.prog w11 = .ok (.tuple #[.int .i64 0, .int .i64 (cc : Int)]) (w11.putObj mb (.map ((es ++ [((cc, keyOf x), 0)]).map entE).toArray (cc + 1))) := entry_run hM11 (keyOf x) HFP.out
 have hs_ : (Instr.entryStore 69 (.map (some mb)) (.int .i64 (cc : Int)) (.int .i64 1)).run Try.prog (w11.putObj mb (.map ((es ++ [((cc, keyOf x), 0)]).map entE).toArray (cc + 1))) = .ok () ((w11.putObj mb (.map ((es ++ [((cc, keyOf x), 0)]).map entE).toArray (cc + 1))).putObj mb (.map ((es ++ [((cc, keyOf x), 1)]).map entE).toArray (cc + 1))) := store_run (keyOf x) 1 HO.out.ok.born (putObj_at _ _ _ (blk_lt hM11))
 have hl2_ : (Instr.lookup 69 (.map (some mb)) (.agg #[.int .i64 x.f0.f1, .int .i64 x.f1]) false).run Try.prog (w11.putObj mb (.map ((es ++ [((cc, keyOf x), 0)]).map entE).toArray (cc + 1))) = .ok (.int .i64 0) (w11.putObj mb (.map ((es ++ [((cc, keyOf x), 0)]).map entE).toArray (cc + 1))) := by
  have h_ := look_run (show MapE _ mb (es ++ [((cc, keyOf x), 0)]) (cc + 1) from putObj_at _ _ _ (blk_lt hM11)) (keyOf x)
  rw [valP_new HFP.out] at h_
  exact h_
 obtain ⟨o1, ho1⟩ : ∃ o1, Obj.map ((es ++ [((cc, keyOf x), (0 : Int))]).map entE).toArray (cc + 1) = o1 := ⟨_, rfl⟩
 obtain ⟨o2, ho2⟩ : ∃ o2, Obj.map ((es ++ [((cc, keyOf x), (1 : Int))]).map entE).toArray (cc + 1) = o2 := ⟨_, rfl⟩
 rw [ho1] at he_ hs_ hl2_
 rw [ho2] at hs_
 have HO2 := Aside0.mk ho2
 have HX11 := Aside0.mk hS11
 have HM11 := Aside0.mk hM11
 have hw11 : wrap64 (1 : Int) = 1 := by rw [← i64_w]; rfl
 clear hb11 hM11 ho1 ho2
 refine hK.out _ _ (hS11) (fun hHeld => ?_)
 clear hK K
 refine norm_ (a' := ?_) ?_ ?_
 rotate_left
 ·show Act.put _ (some 83) _ = _
  simp only [Act.put, List.setIfInBounds_toArray, List.set_cons_zero, List.set_cons_succ, i64_w, i32_w]
  rfl
 refine two_ (i := 6) (j := 8) (Ni := (some 84)) (Nj := (some 86)) #[true, true, true, true, true, true, true, false, false, false, false] #[true, true, true, true, true, true, false, false, true, false, false] rfl rfl rfl rfl (two_of HT_.out (by kernel_rfl)) (by decide) (by decide) (fun K hK => ?_) (fun K hK => ?_)
 ·refine value_ (w1 := ?_) (v := ?_) (by rfl) rfl ?_ ?_
  rotate_left 2
  ·go_simp
   constructor
   ·rfl
   ·rfl
  refine hK.out _ _ (hS11) (fun hHeld => ?_)
  clear hK K
  refine norm_ (a' := ?_) ?_ ?_
  rotate_left
  ·show Act.put _ (some 84) _ = _
   simp only [Act.put, List.setIfInBounds_toArray, List.set_cons_zero, List.set_cons_succ, i64_w, i32_w]
   rfl
  refine pureS (i := 7) (N := (some 85)) #[true, true, true, true, true, true, true, true, false, false, false] HT_ ?_
  refine one_ (i := 8) (N := (some 86)) #[true, true, true, true, true, true, true, true, true, false, false] rfl rfl (one_of HT_.out (by kernel_rfl)) (by decide) (fun K hK => ?_)
  refine value_ (w1 := ?_) (v := ?_) (by rfl) rfl ?_ ?_
  rotate_left 2
  ·go_simp
   constructor
   ·rfl
   ·rfl
  refine hK.out _ _ (⟨(putObj_other _ _ _ _ (fun e => by have h1_ := blk_lt HO.out.map; have h2_ := HNgb.out; omega)).trans HX11.out.1, (World.cell?_of_block (putObj_other _ _ _ _ HO.out.ne)).trans HX11.out.2⟩) (fun hHeld => ?_)
  clear hK K
  refine norm_ (a' := ?_) ?_ ?_
  rotate_left
  ·show Act.put _ (some 86) _ = _
   simp only [Act.put, List.setIfInBounds_toArray, List.set_cons_zero, List.set_cons_succ, i64_w, i32_w]
   rfl
  refine pureS (i := 9) (N := (some 87)) #[true, true, true, true, true, true, true, true, true, true, false] HT_ ?_
  refine one_ (i := 10) (N := none) #[true, true, true, true, true, true, true, true, true, true, true] rfl rfl (one_of HT_.out (by kernel_rfl)) (by decide) (fun K hK => ?_)
  refine skip_ (w1 := ?_) (by rfl) rfl ?_ ?_
  rotate_left
  ·go_simp
   rfl
  refine hK.out _ _ (⟨(putObj_other _ _ _ _ (fun e => by have h1_ := blk_lt HO.out.map; have h2_ := HNgb.out; omega)).trans ((putObj_other _ _ _ _ (fun e => by have h1_ := blk_lt HO.out.map; have h2_ := HNgb.out; omega)).trans HX11.out.1), (World.cell?_of_block (putObj_other _ _ _ _ HO.out.ne)).trans ((World.cell?_of_block (putObj_other _ _ _ _ HO.out.ne)).trans HX11.out.2)⟩) (fun hHeld => ?_)
  clear hK K
  refine done_ (done_of HT_.out (by kernel_rfl)) ?_
  go_wp2_with (fail)
  go_ret2
  rw [← HO2.out]
  exact put_fin HO.out HMID.out HB11.out HNO.out
 ·refine value_ (w1 := ?_) (v := ?_) (by rfl) rfl ?_ ?_
  rotate_left 2
  ·go_simp
   constructor
   ·rfl
   ·rfl
  refine hK.out _ _ (⟨(putObj_other _ _ _ _ (fun e => by have h1_ := blk_lt HO.out.map; have h2_ := HNgb.out; omega)).trans HX11.out.1, (World.cell?_of_block (putObj_other _ _ _ _ HO.out.ne)).trans HX11.out.2⟩) (fun hHeld => ?_)
  clear hK K
  refine norm_ (a' := ?_) ?_ ?_
  rotate_left
  ·show Act.put _ (some 86) _ = _
   simp only [Act.put, List.setIfInBounds_toArray, List.set_cons_zero, List.set_cons_succ, i64_w, i32_w]
   rfl
  refine pureS (i := 9) (N := (some 87)) #[true, true, true, true, true, true, false, false, true, true, false] HT_ ?_
  refine one_ (i := 6) (N := (some 84)) #[true, true, true, true, true, true, true, false, true, true, false] rfl rfl (one_of HT_.out (by kernel_rfl)) (by decide) (fun K hK => ?_)
  refine value_ (w1 := ?_) (v := ?_) (by rfl) rfl ?_ ?_
  rotate_left 2
  ·go_simp
   constructor
   ·rfl
   ·rfl
  refine hK.out _ _ (⟨(putObj_other _ _ _ _ (fun e => by have h1_ := blk_lt HO.out.map; have h2_ := HNgb.out; omega)).trans HX11.out.1, (World.cell?_of_block (putObj_other _ _ _ _ HO.out.ne)).trans HX11.out.2⟩) (fun hHeld => ?_)
  clear hK K
  refine norm_ (a' := ?_) ?_ ?_
  rotate_left
  ·show Act.put _ (some 84) _ = _
   simp only [Act.put, List.setIfInBounds_toArray, List.set_cons_zero, List.set_cons_succ, i64_w, i32_w]
   rfl
  refine pureS (i := 7) (N := (some 85)) #[true, true, true, true, true, true, true, true, true, true, false] HT_ ?_
  refine one_ (i := 10) (N := none) #[true, true, true, true, true, true, true, true, true, true, true] rfl rfl (one_of HT_.out (by kernel_rfl)) (by decide) (fun K hK => ?_)
  refine skip_ (w1 := ?_) (by rfl) rfl ?_ ?_
  rotate_left
  ·go_simp
   rfl
  refine hK.out _ _ (⟨(putObj_other _ _ _ _ (fun e => by have h1_ := blk_lt HO.out.map; have h2_ := HNgb.out; omega)).trans ((putObj_other _ _ _ _ (fun e => by have h1_ := blk_lt HO.out.map; have h2_ := HNgb.out; omega)).trans HX11.out.1), (World.cell?_of_block (putObj_other _ _ _ _ HO.out.ne)).trans ((World.cell?_of_block (putObj_other _ _ _ _ HO.out.ne)).trans HX11.out.2)⟩) (fun hHeld => ?_)
  clear hK K
  refine done_ (done_of HT_.out (by kernel_rfl)) ?_
  go_wp2_with (fail)
  go_ret2
  rw [← HO2.out]
  exact put_fin HO.out HMID.out HB11.out HNO.out
def topiaryref05_Copy.f (a0_0 : Int) (a0_1 : Int) (a0_2 : Int) (l0_3 : List Int) (a0_4 : Int) (a0_5 : Int) (a0_6 : Int) (a0_7 : Int) (a0_8 : Int) (a0_9 : Int) (a0_10 : Int) (a0_11 : ByteArray) (a0_12 : ByteArray) : Option (Int × Int × Int × List Int × Int × Int × Int × Int × Int × Int × Int × ByteArray × ByteArray) := (some (([] : List Int) : List Int)).bind fun y236 => (if y236.length + l0_3.length < 17592186044416 then (some (a0_0, a0_1, a0_2, (y236 ++ l0_3), a0_4, a0_5, a0_6, a0_7, a0_8, a0_9, a0_10, a0_11, a0_12)) else (none))
set_option maxHeartbeats 8000000 in
set_option maxRecDepth 100000 in
theorem topiaryref05_Copy.calls (a0_0 : Int) (a0_1 : Int) (a0_2 : Int) (A0_3 : Option Addr) (c0_3 : Nat) (l0_3 : List Int) (a0_4 : Int) (a0_5 : Int) (a0_6 : Int) (a0_7 : Int) (a0_8 : Int) (a0_9 : Int) (a0_10 : Int) (a0_11 : ByteArray) (a0_12 : ByteArray) (r1 : Int) (r2 : Int) (r3 : Int) (r4 : List Int) (r5 : Int) (r6 : Int) (r7 : Int) (r8 : Int) (r9 : Int) (r10 : Int) (r11 : Int) (r12 : ByteArray) (r13 : ByteArray) (w : World) (hr0_3 : Kd.C (Kd.int .i64) w A0_3 l0_3.length l0_3) (hc0_3 : l0_3.length ≤ c0_3) (h : topiaryref05_Copy.f a0_0 a0_1 a0_2 l0_3 a0_4 a0_5 a0_6 a0_7 a0_8 a0_9 a0_10 a0_11 a0_12 = some (r1, r2, r3, r4, r5, r6, r7, r8, r9, r10, r11, r12, r13)) :
  Calls Try.prog 19 #[.agg #[.int .i64 a0_0, .int .i64 a0_1, .int .i64 a0_2, .slice A0_3 l0_3.length c0_3, .int .i64 a0_4, .int .i64 a0_5, .int .i64 a0_6, .int .i64 a0_7, .int .i64 a0_8, .int .i64 a0_9, .int .i64 a0_10, .string a0_11, .string a0_12]] w fun e w' => ∃ v3_ : Value, e = .returned (.agg #[.int .i64 r1, .int .i64 r2, .int .i64 r3, v3_, .int .i64 r5, .int .i64 r6, .int .i64 r7, .int .i64 r8, .int .i64 r9, .int .i64 r10, .int .i64 r11, .string r12, .string r13]) ∧ Kd.R (Kd.int .i64) 3 w' w.heap.size (fun _ => True) v3_ r4 ∧ Below w.heap.size w w' := by
 have hu32 := Try.underlying32
 have HR0_3 := Aside0.mk hr0_3
 have HC0_3 := Aside0.mk hc0_3
 clear hr0_3 hc0_3
 have HB := Aside0.mk (Below.refl w.heap.size w)
 have H : ((some (([] : List Int) : List Int)).bind fun y236 => (if y236.length + l0_3.length < 17592186044416 then (some (a0_0, a0_1, a0_2, (y236 ++ l0_3), a0_4, a0_5, a0_6, a0_7, a0_8, a0_9, a0_10, a0_11, a0_12)) else (none))) = some (r1, r2, r3, r4, r5, r6, r7, r8, r9, r10, r11, r12, r13) := h
 clear h
 obtain ⟨y236, hy236⟩ : ∃ y_ : List Int, y_ = (([] : List Int)) := ⟨_, rfl⟩
 replace H : (if y236.length + l0_3.length < 17592186044416 then (some (a0_0, a0_1, a0_2, (y236 ++ l0_3), a0_4, a0_5, a0_6, a0_7, a0_8, a0_9, a0_10, a0_11, a0_12)) else (none)) = some (r1, r2, r3, r4, r5, r6, r7, r8, r9, r10, r11, r12, r13) := by first | (rw [hy236]; with_reducible exact H) | (have H2_ := (Option.bind_some _ _).symm.trans H; rw [hy236]; with_reducible exact H2_) | (have H2_ := (Option.bind_some _ _).symm.trans H; with_reducible exact H2_) | with_reducible exact H | (rw [hy236]; exact H) | exact H
 have Ny236 := Aside0.mk hy236
 clear hy236
 by_cases c2 : y236.length + l0_3.length < 17592186044416
 ·rw [if_pos c2] at H
  have LMc2 := Aside0.mk c2
  clear c2
  obtain ⟨y239, hy239⟩ : ∃ y_ : List Int, y_ = (y236 ++ l0_3) := ⟨_, rfl⟩
  replace H : (some (a0_0, a0_1, a0_2, y239, a0_4, a0_5, a0_6, a0_7, a0_8, a0_9, a0_10, a0_11, a0_12)) = some (r1, r2, r3, r4, r5, r6, r7, r8, r9, r10, r11, r12, r13) := by first | (rw [hy239]; with_reducible exact H) | (have H2_ := (Option.bind_some _ _).symm.trans H; rw [hy239]; with_reducible exact H2_) | (have H2_ := (Option.bind_some _ _).symm.trans H; with_reducible exact H2_) | with_reducible exact H | (rw [hy239]; exact H) | exact H
  have Ny239 := Aside0.mk hy239
  clear hy239
  simp only [Option.some.injEq, Prod.mk.injEq] at H
  obtain ⟨rfl, rfl, rfl, rfl, rfl, rfl, rfl, rfl, rfl, rfl, rfl, rfl, rfl⟩ := H
  go_enter Try.func19, Try.ntmps19
  go_wp2_with (first | ((with_reducible refine gate_dst (N := 1) rfl ?_); refine box_event ?hg (N := 1) ?hd (cs := #[.int .i64 a0_0, .int .i64 a0_1, .int .i64 a0_2, .slice A0_3 l0_3.length c0_3, .int .i64 a0_4, .int .i64 a0_5, .int .i64 a0_6, .int .i64 a0_7, .int .i64 a0_8, .int .i64 a0_9, .int .i64 a0_10, .string a0_11, .string a0_12]) (t := 32) ?hr ?_; (case hd => rfl); (case hg => rfl); (case hr => first | (go_simp; done) | (go_simp; rfl)); intro gb234 hg w3 hbox hb; have n0_ := Aside0.mk (below_step (by repeat (first | (with_reducible first | exact HB.out | apply below_alloc | apply pw_below_drewN | apply below_drew1) | exact HB.out)) hb); have n1_ := Aside0.mk (hbox); have n2_ := Aside0.mk ((by rw [hg]; exact (below_size (by repeat (first | (with_reducible first | exact HB.out | apply below_alloc | apply pw_below_drewN | apply below_drew1) | exact HB.out))) : w.heap.size ≤ gb234)); have n3_ := Aside0.mk ((by rw [hg]; exact (below_size (by repeat (first | (with_reducible first | exact HB.out | apply below_alloc | apply pw_below_drewN | apply below_drew1) | exact HB.out))) : w.heap.size ≤ gb234)); clear HB; have HB := n0_; have BK234 := n1_; have GW234 := n2_; have GE234 := n3_; clear n0_ n1_ n2_ n3_; clear hb hbox hg) | ((with_reducible refine gate_dst (N := 2) rfl ?_); refine box_event ?hg (N := 2) ?hd (cs := #[.int .i64 0, .int .i64 0, .int .i64 0, .slice none 0 0, .int .i64 0, .int .i64 0, .int .i64 0, .int .i64 0, .int .i64 0, .int .i64 0, .int .i64 0, .string (⟨#[]⟩ : ByteArray), .string (⟨#[]⟩ : ByteArray)]) (t := 32) ?hr ?_; (case hd => rfl); (case hg => rfl); (case hr => first | (go_simp; done) | (go_simp; rfl)); intro gb235 hg w4 hbox hb; have n0_ := Aside0.mk (blk_below (g := gb234) (o := .cells #[.int .i64 a0_0, .int .i64 a0_1, .int .i64 a0_2, .slice A0_3 l0_3.length c0_3, .int .i64 a0_4, .int .i64 a0_5, .int .i64 a0_6, .int .i64 a0_7, .int .i64 a0_8, .int .i64 a0_9, .int .i64 a0_10, .string a0_11, .string a0_12] 32 (0, 0)) (by (with_reducible repeat (first | refine blk_drewN ?_ _ | refine blk_drew ?_ | refine blk_alloc ?_ _)); exact BK234.out) hb); have n1_ := Aside0.mk (below_step (by repeat (first | (with_reducible first | exact HB.out | apply below_alloc | apply pw_below_drewN | apply below_drew1 | refine below_set ?_ GE234.out) | exact HB.out)) hb); have n2_ := Aside0.mk (hbox); have n3_ := Aside0.mk ((by rw [hg]; exact (below_size (by repeat (first | (with_reducible first | exact HB.out | apply below_alloc | apply pw_below_drewN | apply below_drew1 | refine below_set ?_ GE234.out) | exact HB.out))) : w.heap.size ≤ gb235)); have n4_ := Aside0.mk ((by rw [hg]; exact (below_size (by repeat (first | (with_reducible first | exact HB.out | apply below_alloc | apply pw_below_drewN | apply below_drew1 | refine below_set ?_ GE234.out) | exact HB.out))) : w.heap.size ≤ gb235)); have n5_ := Aside0.mk ((by rw [hg]; exact Nat.ne_of_lt (blk_lt (g := gb234) (o := .cells #[.int .i64 a0_0, .int .i64 a0_1, .int .i64 a0_2, .slice A0_3 l0_3.length c0_3, .int .i64 a0_4, .int .i64 a0_5, .int .i64 a0_6, .int .i64 a0_7, .int .i64 a0_8, .int .i64 a0_9, .int .i64 a0_10, .string a0_11, .string a0_12] 32 (0, 0)) (by (with_reducible repeat (first | refine blk_drewN ?_ _ | refine blk_drew ?_ | refine blk_alloc ?_ _)); exact BK234.out)) : gb234 ≠ gb235)); have n6_ := Aside0.mk ((by rw [hg]; exact Nat.ne_of_gt (blk_lt (g := gb234) (o := .cells #[.int .i64 a0_0, .int .i64 a0_1, .int .i64 a0_2, .slice A0_3 l0_3.length c0_3, .int .i64 a0_4, .int .i64 a0_5, .int .i64 a0_6, .int .i64 a0_7, .int .i64 a0_8, .int .i64 a0_9, .int .i64 a0_10, .string a0_11, .string a0_12] 32 (0, 0)) (by (with_reducible repeat (first | refine blk_drewN ?_ _ | refine blk_drew ?_ | refine blk_alloc ?_ _)); exact BK234.out)) : gb235 ≠ gb234)); clear BK234; clear HB; have BK234 := n0_; have HB := n1_; have BK235 := n2_; have GW235 := n3_; have GE235 := n4_; have NB234_235 := n5_; have NB235_234 := n6_; clear n0_ n1_ n2_ n3_ n4_ n5_ n6_; clear hb hbox hg) | ((with_reducible refine gate_dst (N := 3) rfl ?_); refine Kd.R_lit (Kd.int .i64) _ 3 ?hg (N := 3) ?hd (xs := ([] : List Int)) (inner := []) (ok := fun _ => True) (okp := fun _ => True) ?hr ?hp (fun _ hk => hk) trivial (Below.refl _ _) (Nat.le_refl _) (by simp) ?_; (case hd => rfl); (case hg => rfl); (case hr => first | (go_simp; done) | (go_simp; rfl)); (case hp => exact (Reps.none _ _)); intro v237 w5 ho6 hb hg_ hnew_; clear hg_ hnew_; (first | rw [← Ny236.out] at ho6 | (simp only [Int.reduceToNat] at ho6; rw [← Ny236.out] at ho6)); have n0_ := Aside0.mk (Kd.R_lower ho6 (below_size (by repeat (first | (with_reducible first | exact HB.out | apply below_alloc | apply pw_below_drewN | apply below_drew1 | refine below_set ?_ GE234.out | refine below_set ?_ GE235.out) | exact HB.out)))); have n1_ := Aside0.mk (blk_below (g := gb234) (o := .cells #[.int .i64 a0_0, .int .i64 a0_1, .int .i64 a0_2, .slice A0_3 l0_3.length c0_3, .int .i64 a0_4, .int .i64 a0_5, .int .i64 a0_6, .int .i64 a0_7, .int .i64 a0_8, .int .i64 a0_9, .int .i64 a0_10, .string a0_11, .string a0_12] 32 (0, 0)) (by (with_reducible repeat (first | refine blk_drewN ?_ _ | refine blk_drew ?_ | refine blk_alloc ?_ _)); exact BK234.out) hb); have n2_ := Aside0.mk (blk_below (g := gb235) (o := .cells #[.int .i64 0, .int .i64 0, .int .i64 0, .slice none 0 0, .int .i64 0, .int .i64 0, .int .i64 0, .int .i64 0, .int .i64 0, .int .i64 0, .int .i64 0, .string (⟨#[]⟩ : ByteArray), .string (⟨#[]⟩ : ByteArray)] 32 (0, 0)) (by (with_reducible repeat (first | refine blk_drewN ?_ _ | refine blk_drew ?_ | refine blk_alloc ?_ _)); exact BK235.out) hb); have n3_ := Aside0.mk (below_step (by repeat (first | (with_reducible first | exact HB.out | apply below_alloc | apply pw_below_drewN | apply below_drew1 | refine below_set ?_ GE234.out | refine below_set ?_ GE235.out) | exact HB.out)) hb); clear BK234; clear BK235; clear HB; have HO238 := n0_; have BK234 := n1_; have BK235 := n2_; have HB := n3_; clear n0_ n1_ n2_ n3_; clear hb ho6; have hnb7 := NB234_235.out; have hnc7 := NB235_234.out; obtain ⟨hcz8_0, hcz8_1, hcz8_2, hcz8_3, hcz8_4, hcz8_5, hcz8_6, hcz8_7, hcz8_8, hcz8_9, hcz8_10, hcz8_11, hcz8_12⟩ := cells13 BK234.out; obtain ⟨hfz8_0, hfz8_1, hfz8_2, hfz8_3, hfz8_4, hfz8_5, hfz8_6, hfz8_7, hfz8_8, hfz8_9, hfz8_10, hfz8_11, hfz8_12⟩ := froz13 BK234.out) | ((with_reducible refine gate_builtin (b := .append) (xs := #[.tmp 3, .tmp 5]) rfl ?_); at_builtin; refine Kd.R_append_rows (Kd.int .i64) (w0 := w) w.heap.size rfl (.tmp 3) (.tmp 5) 23 3 (.int .i64 0) 8 rfl Try.underlying23 info3 rfl (by decide) (by omega) v237 y236 l0_3 _ _ _ (fun _ => True) (fun _ => False) rfl rfl ?aO ?aR (fun _ _ h => h) (fun _ h => h.elim) ?aF ?aB ?aS ?aL ?_; (case aR => repeat (first | exact (Kd.C_below HR0_3.out HB.out) | (with_reducible refine Kd.C_alloc ?_ _) | (with_reducible refine Kd.C_drewN ?_ _) | (with_reducible refine Kd.C_drew ?_))); (case aB => exact (by repeat (first | (with_reducible first | exact HB.out | apply below_alloc | apply pw_below_drewN | apply below_drew1 | refine below_set ?_ GE234.out | refine below_set ?_ GE235.out) | exact HB.out))); (case aF => exact (fun _ _ => trivial)); (case aO => exact (by (with_reducible repeat (first | apply Kd.R_alloc | apply Kd.R_drewN | apply Kd.R_drew)); exact HO238.out)); (case aS => exact (below_size (by repeat (first | (with_reducible first | exact HB.out | apply below_alloc | apply pw_below_drewN | apply below_drew1 | refine below_set ?_ GE234.out | refine below_set ?_ GE235.out) | exact HB.out)))); (case aL => have := LMc2.out; omega); intro v240 w9 ho hb hg hat; rw [← Ny239.out] at ho; have n0_ := Aside0.mk (blk_grown (g := gb234) (o := .cells #[.int .i64 a0_0, .int .i64 a0_1, .int .i64 a0_2, .slice A0_3 l0_3.length c0_3, .int .i64 a0_4, .int .i64 a0_5, .int .i64 a0_6, .int .i64 a0_7, .int .i64 a0_8, .int .i64 a0_9, .int .i64 a0_10, .string a0_11, .string a0_12] 32 (0, 0)) (by (with_reducible repeat (first | refine blk_drewN ?_ _ | refine blk_drew ?_ | refine blk_alloc ?_ _)); exact BK234.out) hg (Kd.R_ne HO238.out BK234.out (by decide))); have n1_ := Aside0.mk (blk_grown (g := gb235) (o := .cells #[.int .i64 0, .int .i64 0, .int .i64 0, .slice none 0 0, .int .i64 0, .int .i64 0, .int .i64 0, .int .i64 0, .int .i64 0, .int .i64 0, .int .i64 0, .string (⟨#[]⟩ : ByteArray), .string (⟨#[]⟩ : ByteArray)] 32 (0, 0)) (by (with_reducible repeat (first | refine blk_drewN ?_ _ | refine blk_drew ?_ | refine blk_alloc ?_ _)); exact BK235.out) hg (Kd.R_ne HO238.out BK235.out (by decide))); have n2_ := Aside0.mk (hb); have n3_ := Aside0.mk (ho); clear BK234; clear BK235; clear HB; clear HO238; have BK234 := n0_; have BK235 := n1_; have HB := n2_; have HO241 := n3_; clear n0_ n1_ n2_ n3_; clear ho hb hg hat; obtain ⟨Ao10, co10, eo10⟩ := Kd.R_slice HO241.out; subst eo10; obtain ⟨hcz11_0, hcz11_1, hcz11_2, hcz11_3, hcz11_4, hcz11_5, hcz11_6, hcz11_7, hcz11_8, hcz11_9, hcz11_10, hcz11_11, hcz11_12⟩ := cells13 BK234.out; obtain ⟨hfz11_0, hfz11_1, hfz11_2, hfz11_3, hfz11_4, hfz11_5, hfz11_6, hfz11_7, hfz11_8, hfz11_9, hfz11_10, hfz11_11, hfz11_12⟩ := froz13 BK234.out; obtain ⟨hcz12_0, hcz12_1, hcz12_2, hcz12_3, hcz12_4, hcz12_5, hcz12_6, hcz12_7, hcz12_8, hcz12_9, hcz12_10, hcz12_11, hcz12_12⟩ := cells13 BK235.out; obtain ⟨hfz12_0, hfz12_1, hfz12_2, hfz12_3, hfz12_4, hfz12_5, hfz12_6, hfz12_7, hfz12_8, hfz12_9, hfz12_10, hfz12_11, hfz12_12⟩ := froz13 BK235.out))
  refine bodyPost_ret (results_cell_row rfl _ _ gb235 32 #[.int .i64 a0_0, .int .i64 a0_1, .int .i64 a0_2, .slice Ao10 y239.length co10, .int .i64 a0_4, .int .i64 a0_5, .int .i64 a0_6, .int .i64 a0_7, .int .i64 a0_8, .int .i64 a0_9, .int .i64 a0_10, .string a0_11, .string a0_12] (0, 0) _ rfl (by (with_reducible repeat (first | refine blk_drewN ?_ _ | refine blk_drew ?_ | refine blk_alloc ?_ _)); refine blk_put (cs := #[.int .i64 a0_0, .int .i64 a0_1, .int .i64 a0_2, .slice Ao10 y239.length co10, .int .i64 a0_4, .int .i64 a0_5, .int .i64 a0_6, .int .i64 a0_7, .int .i64 a0_8, .int .i64 a0_9, .int .i64 a0_10, .string a0_11, .string (⟨#[]⟩ : ByteArray)]) ?_ 12 _ rfl; (with_reducible repeat (first | refine blk_drewN ?_ _ | refine blk_drew ?_ | refine blk_alloc ?_ _)); refine blk_put (cs := #[.int .i64 a0_0, .int .i64 a0_1, .int .i64 a0_2, .slice Ao10 y239.length co10, .int .i64 a0_4, .int .i64 a0_5, .int .i64 a0_6, .int .i64 a0_7, .int .i64 a0_8, .int .i64 a0_9, .int .i64 a0_10, .string (⟨#[]⟩ : ByteArray), .string (⟨#[]⟩ : ByteArray)]) ?_ 11 _ rfl; (with_reducible repeat (first | refine blk_drewN ?_ _ | refine blk_drew ?_ | refine blk_alloc ?_ _)); refine blk_put (cs := #[.int .i64 a0_0, .int .i64 a0_1, .int .i64 a0_2, .slice Ao10 y239.length co10, .int .i64 a0_4, .int .i64 a0_5, .int .i64 a0_6, .int .i64 a0_7, .int .i64 a0_8, .int .i64 a0_9, .int .i64 0, .string (⟨#[]⟩ : ByteArray), .string (⟨#[]⟩ : ByteArray)]) ?_ 10 _ rfl; (with_reducible repeat (first | refine blk_drewN ?_ _ | refine blk_drew ?_ | refine blk_alloc ?_ _)); refine blk_put (cs := #[.int .i64 a0_0, .int .i64 a0_1, .int .i64 a0_2, .slice Ao10 y239.length co10, .int .i64 a0_4, .int .i64 a0_5, .int .i64 a0_6, .int .i64 a0_7, .int .i64 a0_8, .int .i64 0, .int .i64 0, .string (⟨#[]⟩ : ByteArray), .string (⟨#[]⟩ : ByteArray)]) ?_ 9 _ rfl; (with_reducible repeat (first | refine blk_drewN ?_ _ | refine blk_drew ?_ | refine blk_alloc ?_ _)); refine blk_put (cs := #[.int .i64 a0_0, .int .i64 a0_1, .int .i64 a0_2, .slice Ao10 y239.length co10, .int .i64 a0_4, .int .i64 a0_5, .int .i64 a0_6, .int .i64 a0_7, .int .i64 0, .int .i64 0, .int .i64 0, .string (⟨#[]⟩ : ByteArray), .string (⟨#[]⟩ : ByteArray)]) ?_ 8 _ rfl; (with_reducible repeat (first | refine blk_drewN ?_ _ | refine blk_drew ?_ | refine blk_alloc ?_ _)); refine blk_put (cs := #[.int .i64 a0_0, .int .i64 a0_1, .int .i64 a0_2, .slice Ao10 y239.length co10, .int .i64 a0_4, .int .i64 a0_5, .int .i64 a0_6, .int .i64 0, .int .i64 0, .int .i64 0, .int .i64 0, .string (⟨#[]⟩ : ByteArray), .string (⟨#[]⟩ : ByteArray)]) ?_ 7 _ rfl; (with_reducible repeat (first | refine blk_drewN ?_ _ | refine blk_drew ?_ | refine blk_alloc ?_ _)); refine blk_put (cs := #[.int .i64 a0_0, .int .i64 a0_1, .int .i64 a0_2, .slice Ao10 y239.length co10, .int .i64 a0_4, .int .i64 a0_5, .int .i64 0, .int .i64 0, .int .i64 0, .int .i64 0, .int .i64 0, .string (⟨#[]⟩ : ByteArray), .string (⟨#[]⟩ : ByteArray)]) ?_ 6 _ rfl; (with_reducible repeat (first | refine blk_drewN ?_ _ | refine blk_drew ?_ | refine blk_alloc ?_ _)); refine blk_put (cs := #[.int .i64 a0_0, .int .i64 a0_1, .int .i64 a0_2, .slice Ao10 y239.length co10, .int .i64 a0_4, .int .i64 0, .int .i64 0, .int .i64 0, .int .i64 0, .int .i64 0, .int .i64 0, .string (⟨#[]⟩ : ByteArray), .string (⟨#[]⟩ : ByteArray)]) ?_ 5 _ rfl; (with_reducible repeat (first | refine blk_drewN ?_ _ | refine blk_drew ?_ | refine blk_alloc ?_ _)); refine blk_put (cs := #[.int .i64 a0_0, .int .i64 a0_1, .int .i64 a0_2, .slice Ao10 y239.length co10, .int .i64 0, .int .i64 0, .int .i64 0, .int .i64 0, .int .i64 0, .int .i64 0, .int .i64 0, .string (⟨#[]⟩ : ByteArray), .string (⟨#[]⟩ : ByteArray)]) ?_ 4 _ rfl; (with_reducible repeat (first | refine blk_drewN ?_ _ | refine blk_drew ?_ | refine blk_alloc ?_ _)); refine blk_put (cs := #[.int .i64 a0_0, .int .i64 a0_1, .int .i64 a0_2, .slice none 0 0, .int .i64 0, .int .i64 0, .int .i64 0, .int .i64 0, .int .i64 0, .int .i64 0, .int .i64 0, .string (⟨#[]⟩ : ByteArray), .string (⟨#[]⟩ : ByteArray)]) ?_ 3 _ rfl; (with_reducible repeat (first | refine blk_drewN ?_ _ | refine blk_drew ?_ | refine blk_alloc ?_ _)); refine blk_put (cs := #[.int .i64 a0_0, .int .i64 a0_1, .int .i64 0, .slice none 0 0, .int .i64 0, .int .i64 0, .int .i64 0, .int .i64 0, .int .i64 0, .int .i64 0, .int .i64 0, .string (⟨#[]⟩ : ByteArray), .string (⟨#[]⟩ : ByteArray)]) ?_ 2 _ rfl; (with_reducible repeat (first | refine blk_drewN ?_ _ | refine blk_drew ?_ | refine blk_alloc ?_ _)); refine blk_put (cs := #[.int .i64 a0_0, .int .i64 0, .int .i64 0, .slice none 0 0, .int .i64 0, .int .i64 0, .int .i64 0, .int .i64 0, .int .i64 0, .int .i64 0, .int .i64 0, .string (⟨#[]⟩ : ByteArray), .string (⟨#[]⟩ : ByteArray)]) ?_ 1 _ rfl; (with_reducible repeat (first | refine blk_drewN ?_ _ | refine blk_drew ?_ | refine blk_alloc ?_ _)); refine blk_put (cs := #[.int .i64 0, .int .i64 0, .int .i64 0, .slice none 0 0, .int .i64 0, .int .i64 0, .int .i64 0, .int .i64 0, .int .i64 0, .int .i64 0, .int .i64 0, .string (⟨#[]⟩ : ByteArray), .string (⟨#[]⟩ : ByteArray)]) ?_ 0 _ rfl; (with_reducible repeat (first | refine blk_drewN ?_ _ | refine blk_drew ?_ | refine blk_alloc ?_ _)); refine blk_far ?_ NB235_234.out _; (with_reducible repeat (first | refine blk_drewN ?_ _ | refine blk_drew ?_ | refine blk_alloc ?_ _)); exact BK235.out) Try.underlying32 rfl (by kernel_rfl)) rfl ?_
  exact ⟨_, by first | rfl | (simp [errW_none, errW_some] <;> rfl) | (simp [*, errW_none, errW_some] <;> rfl), by (with_reducible repeat (first | apply Kd.R_alloc | apply Kd.R_drewN | apply Kd.R_drew)); exact Kd.R_mono (Kd.R_far (p := ⟨gb235, 12, none⟩) (Kd.R_far (p := ⟨gb235, 11, none⟩) (Kd.R_far (p := ⟨gb235, 10, none⟩) (Kd.R_far (p := ⟨gb235, 9, none⟩) (Kd.R_far (p := ⟨gb235, 8, none⟩) (Kd.R_far (p := ⟨gb235, 7, none⟩) (Kd.R_far (p := ⟨gb235, 6, none⟩) (Kd.R_far (p := ⟨gb235, 5, none⟩) (Kd.R_far (p := ⟨gb235, 4, none⟩) (Kd.R_far (p := ⟨gb235, 3, none⟩) (Kd.R_far (p := ⟨gb235, 2, none⟩) (Kd.R_far (p := ⟨gb235, 1, none⟩) (Kd.R_far (p := ⟨gb235, 0, none⟩) (Kd.R_far (p := ⟨gb234, 3, none⟩) (Kd.R_types (Kd.R_types HO241.out BK234.out (by decide)) BK235.out (by decide)) (fun _ hk => hk.1.2) (.slice Ao10 y239.length co10)) (fun _ hk => hk.2) (.int .i64 a0_0)) (fun _ hk => hk.2) (.int .i64 a0_1)) (fun _ hk => hk.2) (.int .i64 a0_2)) (fun _ hk => hk.2) (.slice Ao10 y239.length co10)) (fun _ hk => hk.2) (.int .i64 a0_4)) (fun _ hk => hk.2) (.int .i64 a0_5)) (fun _ hk => hk.2) (.int .i64 a0_6)) (fun _ hk => hk.2) (.int .i64 a0_7)) (fun _ hk => hk.2) (.int .i64 a0_8)) (fun _ hk => hk.2) (.int .i64 a0_9)) (fun _ hk => hk.2) (.int .i64 a0_10)) (fun _ hk => hk.2) (.string a0_11)) (fun _ hk => hk.2) (.string a0_12)) (fun _ hk => trivial), by repeat (first | (with_reducible first | exact HB.out | apply below_alloc | apply pw_below_drewN | apply below_drew1 | refine below_set ?_ GE234.out | refine below_set ?_ GE235.out) | exact HB.out)⟩
 ·rw [if_neg c2] at H
  exact absurd H (by simp)
end Go.Proofs.Ytnopjjilpgekfaa.PCa
