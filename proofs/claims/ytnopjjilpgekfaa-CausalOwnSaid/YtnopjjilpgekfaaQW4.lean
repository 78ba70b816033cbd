/- What the statement's row needs of this session's texts, joined by program: part 5. -/
import Derived.WalkMore
import Derived.Deep.LoopGhost
import Derived.Test.YtnopjjilpgekfaaQW3
namespace Go.Proofs.Ytnopjjilpgekfaa.PCa
open Go.RowKit Go.Proofs.YtnopjjilpgekfaaW.PrintWords Go.Proofs.YtnopjjilpgekfaaW.PrintLast Go.Proofs.YtnopjjilpgekfaaW.PrintMore
attribute [local go_sem] max2_int min2_int max_two min_two max_three min_three max_four min_four
set_option linter.unusedVariables false
set_option linter.unusedSimpArgs false
def topiaryref09_without.f (l0 : List (S32)) (a1 : Int) : Option ((List (S32))) := (some (([] : List (S32)) : List (S32))).bind fun y497 => (if 0 ≤ a1 then (if a1 ≤ (l0.length : Int) then ((some (l0.take (a1 : Int).toNat : List (S32))).bind fun y500 => (if y497.length + y500.length < 1034834473200 then ((some (y497 ++ y500 : List (S32))).bind fun y505 => (if 0 ≤ (wrap64 (a1 + 1)) then (if (wrap64 (a1 + 1)) ≤ (l0.length : Int) then ((some (l0.drop ((wrap64 (a1 + 1)) : Int).toNat : List (S32))).bind fun y508 => (if y505.length + y508.length < 1034834473200 then (some (y505 ++ y508)) else (none))) else (none)) else (none))) else (none))) else (none)) else (none))
set_option maxHeartbeats 8000000 in
set_option maxRecDepth 100000 in
theorem topiaryref09_without.calls (P0_ : Nat → Prop) (A0 : Option Addr) (c0 : Nat) (l0 : List (S32)) (a1 : Int) (r : List (S32)) (w : World) (hs0 : Kd.V k32 32 w w.heap.size (fun k_ => P0_ k_) (.slice A0 l0.length c0) l0) (h : topiaryref09_without.f l0 a1 = some r) :
  Calls Try.prog 55 #[.slice A0 l0.length c0, .int .i64 a1] w fun e w' => ∃ v0_ : Value, e = .returned (v0_) ∧ Kd.N k32 32 w' w.heap.size (fun k_ => (P0_ k_ ∨ w.heap.size ≤ k_)) v0_ r ∧ Below w.heap.size w w' := by
 have HO0 := Aside0.mk (show Kd.V k32 32 w w.heap.size (fun k_ => (P0_ k_ ∨ w.heap.size ≤ k_)) (.slice A0 l0.length c0) l0 from Kd.V_mono hs0 (fun k_ hk => .inl hk))
 have HB := Aside0.mk (Below.refl w.heap.size w)
 have H : ((some (([] : List (S32)) : List (S32))).bind fun y497 => (if 0 ≤ a1 then (if a1 ≤ (l0.length : Int) then ((some (l0.take (a1 : Int).toNat : List (S32))).bind fun y500 => (if y497.length + y500.length < 1034834473200 then ((some (y497 ++ y500 : List (S32))).bind fun y505 => (if 0 ≤ (wrap64 (a1 + 1)) then (if (wrap64 (a1 + 1)) ≤ (l0.length : Int) then ((some (l0.drop ((wrap64 (a1 + 1)) : Int).toNat : List (S32))).bind fun y508 => (if y505.length + y508.length < 1034834473200 then (some (y505 ++ y508)) else (none))) else (none)) else (none))) else (none))) else (none)) else (none))) = some r := h
 clear h
 obtain ⟨y497, hy497⟩ : ∃ y_ : List (S32), y_ = (([] : List (S32))) := ⟨_, rfl⟩
 replace H : (if 0 ≤ a1 then (if a1 ≤ (l0.length : Int) then ((some (l0.take (a1 : Int).toNat : List (S32))).bind fun y500 => (if y497.length + y500.length < 1034834473200 then ((some (y497 ++ y500 : List (S32))).bind fun y505 => (if 0 ≤ (wrap64 (a1 + 1)) then (if (wrap64 (a1 + 1)) ≤ (l0.length : Int) then ((some (l0.drop ((wrap64 (a1 + 1)) : Int).toNat : List (S32))).bind fun y508 => (if y505.length + y508.length < 1034834473200 then (some (y505 ++ y508)) else (none))) else (none)) else (none))) else (none))) else (none)) else (none)) = some r := by first | (rw [hy497]; with_reducible exact H) | (have H2_ := (Option.bind_some _ _).symm.trans H; rw [hy497]; with_reducible exact H2_) | (have H2_ := (Option.bind_some _ _).symm.trans H; with_reducible exact H2_) | with_reducible exact H | (rw [hy497]; exact H) | exact H
 have Ny497 := Aside0.mk hy497
 clear hy497
 by_cases c3 : 0 ≤ a1
 ·rw [if_pos c3] at H
  have c3b0 := eq_true c3
  have c3b1 : decide (0 ≤ a1) = true := decide_eq_true c3
  clear c3
  by_cases c4 : a1 ≤ (l0.length : Int)
  ·rw [if_pos c4] at H
   have c4b0 := eq_true c4
   have c4b1 : decide (a1 ≤ (l0.length : Int)) = true := decide_eq_true c4
   clear c4
   obtain ⟨y500, hy500⟩ : ∃ y_ : List (S32), y_ = (l0.take (a1 : Int).toNat) := ⟨_, rfl⟩
   replace H : (if y497.length + y500.length < 1034834473200 then ((some (y497 ++ y500 : List (S32))).bind fun y505 => (if 0 ≤ (wrap64 (a1 + 1)) then (if (wrap64 (a1 + 1)) ≤ (l0.length : Int) then ((some (l0.drop ((wrap64 (a1 + 1)) : Int).toNat : List (S32))).bind fun y508 => (if y505.length + y508.length < 1034834473200 then (some (y505 ++ y508)) else (none))) else (none)) else (none))) else (none)) = some r := by first | (rw [hy500]; with_reducible exact H) | (have H2_ := (Option.bind_some _ _).symm.trans H; rw [hy500]; with_reducible exact H2_) | (have H2_ := (Option.bind_some _ _).symm.trans H; with_reducible exact H2_) | with_reducible exact H | (rw [hy500]; exact H) | exact H
   have Ny500 := Aside0.mk hy500
   clear hy500
   by_cases c5 : y497.length + y500.length < 1034834473200
   ·rw [if_pos c5] at H
    have LMc5 := Aside0.mk c5
    clear c5
    obtain ⟨y505, hy505⟩ : ∃ y_ : List (S32), y_ = (y497 ++ y500) := ⟨_, rfl⟩
    replace H : (if 0 ≤ (wrap64 (a1 + 1)) then (if (wrap64 (a1 + 1)) ≤ (l0.length : Int) then ((some (l0.drop ((wrap64 (a1 + 1)) : Int).toNat : List (S32))).bind fun y508 => (if y505.length + y508.length < 1034834473200 then (some (y505 ++ y508)) else (none))) else (none)) else (none)) = some r := by first | (rw [hy505]; with_reducible exact H) | (have H2_ := (Option.bind_some _ _).symm.trans H; rw [hy505]; with_reducible exact H2_) | (have H2_ := (Option.bind_some _ _).symm.trans H; with_reducible exact H2_) | with_reducible exact H | (rw [hy505]; exact H) | exact H
    have Ny505 := Aside0.mk hy505
    clear hy505
    obtain ⟨ji6, hji6⟩ : ∃ j_ : Int, (wrap64 (a1 + 1)) = j_ := ⟨_, rfl⟩
    replace H : (if 0 ≤ (ji6) then (if (ji6) ≤ (l0.length : Int) then ((some (l0.drop ((ji6) : Int).toNat : List (S32))).bind fun y508 => (if y505.length + y508.length < 1034834473200 then (some (y505 ++ y508)) else (none))) else (none)) else (none)) = some r := by first | (rw [hji6] at H; exact H) | (simp only [hji6] at H ⊢; exact H)
    have hji6w : (IntKind.i64.wrap (a1 + 1)) = ji6 := (i64_w _).trans hji6
    by_cases c7 : 0 ≤ (ji6)
    ·rw [if_pos c7] at H
     have c7b0 := eq_true c7
     have c7b1 : decide (0 ≤ (ji6)) = true := decide_eq_true c7
     clear c7
     by_cases c8 : (ji6) ≤ (l0.length : Int)
     ·rw [if_pos c8] at H
      have c8b0 := eq_true c8
      have c8b1 : decide ((ji6) ≤ (l0.length : Int)) = true := decide_eq_true c8
      clear c8
      obtain ⟨y508, hy508⟩ : ∃ y_ : List (S32), y_ = (l0.drop ((ji6) : Int).toNat) := ⟨_, rfl⟩
      replace H : (if y505.length + y508.length < 1034834473200 then (some (y505 ++ y508)) else (none)) = some r := by first | (rw [hy508]; with_reducible exact H) | (have H2_ := (Option.bind_some _ _).symm.trans H; rw [hy508]; with_reducible exact H2_) | (have H2_ := (Option.bind_some _ _).symm.trans H; with_reducible exact H2_) | with_reducible exact H | (rw [hy508]; exact H) | exact H
      have Ny508 := Aside0.mk hy508
      clear hy508
      by_cases c9 : y505.length + y508.length < 1034834473200
      ·rw [if_pos c9] at H
       have LMc9 := Aside0.mk c9
       clear c9
       obtain ⟨y513, hy513⟩ : ∃ y_ : List (S32), y_ = (y505 ++ y508) := ⟨_, rfl⟩
       replace H : (some y513) = some r := by first | (rw [hy513]; with_reducible exact H) | (have H2_ := (Option.bind_some _ _).symm.trans H; rw [hy513]; with_reducible exact H2_) | (have H2_ := (Option.bind_some _ _).symm.trans H; with_reducible exact H2_) | with_reducible exact H | (rw [hy513]; exact H) | exact H
       have Ny513 := Aside0.mk hy513
       clear hy513
       obtain rfl := Option.some.inj H
       go_enter Try.func55, Try.ntmps55
       go_wp2_with (first | ((with_reducible refine gate_dst (N := 6) rfl ?_); refine Kd.N_lit k32 _ 32 ?hg (N' := 6) ?hd (xs := ([] : List (S32))) (inner := []) (ok := (fun k_ => (P0_ k_ ∨ w.heap.size ≤ k_))) (okp := (fun k_ => (P0_ k_ ∨ w.heap.size ≤ k_))) ?hr ?hp (fun _ hk => hk) ((show ∀ k_, w.heap.size ≤ k_ → (fun k_ => (P0_ k_ ∨ w.heap.size ≤ k_)) k_ from fun k_ hk => (.inr (Nat.le_trans (below_size (by repeat (first | (with_reducible first | exact HB.out | apply below_alloc | apply pw_below_drewN | apply below_drew1) | exact HB.out))) hk))) _ (Nat.le_refl _)) (Below.refl _ _) (Nat.le_refl _) (by simp) ?_; (case hd => rfl); (case hg => rfl); (case hr => first | (go_simp; done) | (go_simp; rfl)); (case hp => exact (Reps.none _ _)); intro v498 w10 ho11 hb hg_ hnew_; clear hg_ hnew_; (first | rw [← Ny497.out] at ho11 | (simp only [Int.reduceToNat] at ho11; rw [← Ny497.out] at ho11)); have n0_ := Aside0.mk (Kd.V_elder' (by (with_reducible repeat (first | apply Kd.V_alloc | apply Kd.V_drewN | apply Kd.V_drew)); exact HO0.out) (Kd.N_base ho11) hb); have n1_ := Aside0.mk (Kd.N_lower ho11 (below_size (by repeat (first | (with_reducible first | exact HB.out | apply below_alloc | apply pw_below_drewN | apply below_drew1) | exact HB.out)))); have n2_ := Aside0.mk (below_step (by repeat (first | (with_reducible first | exact HB.out | apply below_alloc | apply pw_below_drewN | apply below_drew1) | exact HB.out)) hb); clear HO0; clear HB; have HO0 := n0_; have HO499 := n1_; have HB := n2_; clear n0_ n1_ n2_; clear hb ho11; have q12 : (a1 : Int) ≤ ((l0.length : Int) : Int) := of_decide_eq_true (by first | (with_reducible assumption) | assumption); obtain ⟨i012, hi012, _, hsz12, _⟩ := info_parts info32; have hroom12 : l0.length ≤ c0 := (Kd.V_reads' HO0.out).2.1; have hC12 : Kd.F k32 _ _ A0 l0.length l0 := (Kd.V_at (base := w.heap.size) HO0.out).2.2; have hcut12 := cut_to (P := Try.prog) 22 32 .i64 Try.underlying22 hi012 A0 l0.length c0 a1 (of_decide_eq_true (by first | (with_reducible assumption) | assumption)) q12 hroom12; have hr12 := Kd.F_take (m := (a1 : Int).toNat) hC12 (by omega); have hy12 : y500.length = (a1 : Int).toNat := (by rw [Ny500.out, List.length_take]; omega); rw [← Ny500.out] at hr12; rw [← hy12] at hcut12; have HO504 := Aside0.mk (show Kd.V k32 32 _ w.heap.size _ (.slice A0 y500.length c0) y500 from Kd.V_mk (by omega) hr12); have HC504 := Aside0.mk (show y500.length ≤ c0 from by omega); clear hr12 hC12 hroom12 hi012 hsz12; have KY12 := Aside0.mk hy12; clear hy12; replace q12 := eq_true q12) | ((with_reducible refine gate_builtin (b := .append) (xs := #[.tmp 6, .tmp 9]) rfl ?_); at_builtin; refine Kd.N_append_rows k32 (w0 := w) w.heap.size rfl (.tmp 6) (.tmp 9) 22 32 (.agg #[(.int .i64 0), (.int .i64 0), (.int .i64 0), (.slice none 0 0), (.int .i64 0), (.int .i64 0), (.int .i64 0), (.int .i64 0), (.int .i64 0), (.int .i64 0), (.int .i64 0), (.string ⟨#[]⟩), (.string ⟨#[]⟩)]) 136 rfl Try.underlying22 info32 rfl (by decide) (by omega) v498 y497 y500 _ _ _ (fun k_ => (P0_ k_ ∨ w.heap.size ≤ k_)) (fun k_ => ((fun k_ => (P0_ k_ ∨ w.heap.size ≤ k_))) k_ ∧ some k_ ≠ (v498 : Value).ownBlock) rfl rfl ?aO ?aR (fun _ hk => hk) ?aF ?aB ?aS ?aL ?_; (case aR => exact (by skip; exact Kd.V_F (Kd.V_mono (ok' := (fun k_ => ((fun k_ => (P0_ k_ ∨ w.heap.size ≤ k_))) k_ ∧ some k_ ≠ (v498 : Value).ownBlock)) (HO504.out) (fun k_ hk => ⟨hk.1, hk.2⟩)))); (case aB => exact (by repeat (first | (with_reducible first | exact HB.out | apply below_alloc | apply pw_below_drewN | apply below_drew1) | exact HB.out))); (case aF => exact (fun k_ hk => (.inr (Nat.le_trans (below_size (by repeat (first | (with_reducible first | exact HB.out | apply below_alloc | apply pw_below_drewN | apply below_drew1) | exact HB.out))) hk)))); (case aO => exact (by (with_reducible repeat (first | apply Kd.N_alloc | apply Kd.N_drewN | apply Kd.N_drew)); exact HO499.out)); (case aS => exact (below_size (by repeat (first | (with_reducible first | exact HB.out | apply below_alloc | apply pw_below_drewN | apply below_drew1) | exact HB.out)))); (case aL => have := LMc5.out; omega); intro v506 w13 ho hb hg hat; rw [← Ny505.out] at ho; have n0_ := Aside0.mk (Kd.V_afterv (ok := (fun k_ => (P0_ k_ ∨ w.heap.size ≤ k_))) (by (with_reducible repeat (first | apply Kd.V_alloc | apply Kd.V_drewN | apply Kd.V_drew)); exact HO0.out) hg hat); have n1_ := Aside0.mk (Kd.V_afterv (ok := (fun k_ => (P0_ k_ ∨ w.heap.size ≤ k_))) (by (with_reducible repeat (first | apply Kd.V_alloc | apply Kd.V_drewN | apply Kd.V_drew)); exact HO504.out) hg hat); have n2_ := Aside0.mk (hb); have n3_ := Aside0.mk (ho); clear HO0; clear HO504; clear HB; clear HO499; have HO0 := n0_; have HO504 := n1_; have HB := n2_; have HO507 := n3_; clear n0_ n1_ n2_ n3_; clear ho hb hg hat; have q14 : ((ji6) : Int) ≤ ((l0.length : Int) : Int) := of_decide_eq_true (by first | (with_reducible assumption) | assumption); obtain ⟨i014, hi014, _, hsz14, _⟩ := info_parts info32; have hroom14 : l0.length ≤ c0 := (Kd.V_reads' HO0.out).2.1; have hC14 : Kd.F k32 _ _ A0 l0.length l0 := (Kd.V_at (base := w.heap.size) HO0.out).2.2; have q014 : (0 : Int) ≤ ((ji6) : Int) := of_decide_eq_true (by first | (with_reducible assumption) | assumption); have hcut14 := cut_from (P := Try.prog) 22 32 .i64 Try.underlying22 hi014 13 hsz14 A0 l0.length c0 (ji6) q014 q14; have hr14 := Kd.F_cut (m := ((ji6) : Int).toNat) (c := c0) hC14 (by omega) hroom14; obtain ⟨A14, hA14⟩ : ∃ A1, A1 = (if c0 = ((ji6) : Int).toNat then A0 else (A0 : Option Addr).map (·.add (((ji6) : Int).toNat * 13))) := ⟨_, rfl⟩; obtain ⟨c14, hc14⟩ : ∃ c1, c1 = c0 - ((ji6) : Int).toNat := ⟨_, rfl⟩; have hy14 : y508.length = l0.length - ((ji6) : Int).toNat := (by rw [Ny508.out, List.length_drop] <;> omega); rw [show (l0).drop ((ji6) : Int).toNat = y508 from Ny508.out.symm] at hr14; replace hr14 : Kd.F k32 _ _ A14 y508.length y508 := (by rw [hA14]; exact hr14); rw [← hy14, ← hA14, ← hc14] at hcut14; have HO512 := Aside0.mk (show Kd.V k32 32 _ w.heap.size _ (.slice A14 y508.length c14) y508 from Kd.V_mk (by rw [hy14, hc14]; exact Nat.sub_le_sub_right hroom14 _) hr14); have HC512 := Aside0.mk (show y508.length ≤ c14 from by rw [hy14, hc14]; exact Nat.sub_le_sub_right hroom14 _); clear hr14 hC14 hroom14 hi014 hsz14 hc14; have KY14 := Aside0.mk hy14; have KA14 := Aside0.mk hA14; clear hy14 hA14; replace q14 := eq_true q14) | ((with_reducible refine gate_builtin (b := .append) (xs := #[.tmp 11, .tmp 15]) rfl ?_); at_builtin; refine Kd.N_append_rows k32 (w0 := w) w.heap.size rfl (.tmp 11) (.tmp 15) 22 32 (.agg #[(.int .i64 0), (.int .i64 0), (.int .i64 0), (.slice none 0 0), (.int .i64 0), (.int .i64 0), (.int .i64 0), (.int .i64 0), (.int .i64 0), (.int .i64 0), (.int .i64 0), (.string ⟨#[]⟩), (.string ⟨#[]⟩)]) 136 rfl Try.underlying22 info32 rfl (by decide) (by omega) v506 y505 y508 _ _ _ (fun k_ => (P0_ k_ ∨ w.heap.size ≤ k_)) (fun k_ => ((fun k_ => (P0_ k_ ∨ w.heap.size ≤ k_))) k_ ∧ some k_ ≠ (v506 : Value).ownBlock) rfl rfl ?aO ?aR (fun _ hk => hk) ?aF ?aB ?aS ?aL ?_; (case aR => exact (by skip; exact Kd.V_F (Kd.V_mono (ok' := (fun k_ => ((fun k_ => (P0_ k_ ∨ w.heap.size ≤ k_))) k_ ∧ some k_ ≠ (v506 : Value).ownBlock)) (HO512.out) (fun k_ hk => ⟨hk.1, hk.2⟩)))); (case aB => exact (by repeat (first | (with_reducible first | exact HB.out | apply below_alloc | apply pw_below_drewN | apply below_drew1) | exact HB.out))); (case aF => exact (fun k_ hk => (.inr (Nat.le_trans (below_size (by repeat (first | (with_reducible first | exact HB.out | apply below_alloc | apply pw_below_drewN | apply below_drew1) | exact HB.out))) hk)))); (case aO => exact (by (with_reducible repeat (first | apply Kd.N_alloc | apply Kd.N_drewN | apply Kd.N_drew)); exact HO507.out)); (case aS => exact (below_size (by repeat (first | (with_reducible first | exact HB.out | apply below_alloc | apply pw_below_drewN | apply below_drew1) | exact HB.out)))); (case aL => have := LMc9.out; omega); intro v514 w15 ho hb hg hat; rw [← Ny513.out] at ho; have n0_ := Aside0.mk (Kd.V_afterv (ok := (fun k_ => (P0_ k_ ∨ w.heap.size ≤ k_))) (by (with_reducible repeat (first | apply Kd.V_alloc | apply Kd.V_drewN | apply Kd.V_drew)); exact HO0.out) hg hat); have n1_ := Aside0.mk (Kd.V_afterv (ok := (fun k_ => (P0_ k_ ∨ w.heap.size ≤ k_))) (by (with_reducible repeat (first | apply Kd.V_alloc | apply Kd.V_drewN | apply Kd.V_drew)); exact HO504.out) hg hat); have n2_ := Aside0.mk (Kd.V_afterv (ok := (fun k_ => (P0_ k_ ∨ w.heap.size ≤ k_))) (by (with_reducible repeat (first | apply Kd.V_alloc | apply Kd.V_drewN | apply Kd.V_drew)); exact HO512.out) hg hat); have n3_ := Aside0.mk (hb); have n4_ := Aside0.mk (ho); clear HO0; clear HO504; clear HO512; clear HB; clear HO507; have HO0 := n0_; have HO504 := n1_; have HO512 := n2_; have HB := n3_; have HO515 := n4_; clear n0_ n1_ n2_ n3_ n4_; clear ho hb hg hat))
       go_ret
       exact ⟨_, by first | rfl | (simp [errW_none, errW_some] <;> rfl) | (simp only [← hji6]; first | rfl | (simp [errW_none, errW_some] <;> rfl)) | (simp [*, errW_none, errW_some] <;> rfl), by (with_reducible repeat (first | apply Kd.N_alloc | apply Kd.N_drewN | apply Kd.N_drew)); exact HO515.out, by repeat (first | (with_reducible first | exact HB.out | apply below_alloc | apply pw_below_drewN | apply below_drew1) | exact HB.out)⟩
      ·rw [if_neg c9] at H
       exact absurd H (by simp)
     ·rw [if_neg c8] at H
      exact absurd H (by simp)
    ·rw [if_neg c7] at H
     exact absurd H (by simp)
   ·rw [if_neg c5] at H
    exact absurd H (by simp)
  ·rw [if_neg c4] at H
   exact absurd H (by simp)
 ·rw [if_neg c3] at H
  exact absurd H (by simp)
end Go.Proofs.Ytnopjjilpgekfaa.PCa
namespace Go.Proofs.Ytnopjjilpgekfaa.PCa
open Go.RowKit Go.Proofs.YtnopjjilpgekfaaW.PrintWords Go.Proofs.YtnopjjilpgekfaaW.PrintLast Go.Proofs.YtnopjjilpgekfaaW.PrintMore
set_option linter.unusedVariables false
set_option linter.unusedSimpArgs false
theorem without_is (l : List S32) (i : Nat) (hi : i < l.length) (hl : l.length < 90000) : topiaryref09_without.f l (i : Int) = some (l.eraseIdx i) := by
 unfold topiaryref09_without.f
 rw [Option.bind_some, if_pos (by omega), if_pos (by omega), Option.bind_some, if_pos (by simp only [List.length_nil, List.length_take]; omega), Option.bind_some, w1 (by omega), if_pos (by omega), if_pos (by omega), Option.bind_some, if_pos (by simp only [List.nil_append, List.length_take, List.length_drop]; omega), List.nil_append, Int.toNat_natCast, Int.toNat_natCast, List.eraseIdx_eq_take_drop_succ]
theorem own_loop (l : List S32) (a b : Int) (hl : l.length < 90000) : ∀ (n i k : Nat), i + n = l.length → n < k → ∃ r, topiaryref07_Own.l0 k l a b (i : Int) = some r ∧ (r ≥ 0 ↔ ∃ j, i ≤ j ∧ j < l.length ∧ (rd_T32 l (j : Int)).f0.f1 = a ∧ (rd_T32 l (j : Int)).f1 = b) := by
 intro n
 induction n with
 | zero =>
  intro i k hi hk
  obtain ⟨k, rfl⟩ : ∃ m, k = m + 1 := ⟨k - 1, by omega⟩
  refine ⟨-1, by rw [topiaryref07_Own.l0, if_neg (by omega)], ⟨fun h => by omega, fun ⟨j, h1, h2, _⟩ => by omega⟩⟩
 | succ n ih =>
  intro i k hi hk
  obtain ⟨k, rfl⟩ : ∃ m, k = m + 1 := ⟨k - 1, by omega⟩
  obtain ⟨r, h1, h2⟩ := ih (i + 1) k (by omega) (by omega)
  rw [topiaryref07_Own.l0, if_pos (by omega), if_pos (by omega), w1 (by omega)]
  by_cases c1 : (rd_T32 l (i : Int)).f0.f1 = a
  ·rw [if_pos c1]
   by_cases c2 : (rd_T32 l (i : Int)).f1 = b
   ·rw [if_pos c2]
    exact ⟨(i : Int), rfl, ⟨fun _ => ⟨i, Nat.le_refl _, by omega, c1, c2⟩, fun _ => by omega⟩⟩
   ·rw [if_neg c2]
    refine ⟨r, h1, h2.trans ⟨fun ⟨j, q1, q2, q3⟩ => ⟨j, by omega, q2, q3⟩, fun ⟨j, q1, q2, q3⟩ => ⟨j, ?_, q2, q3⟩⟩⟩
    rcases Nat.eq_or_lt_of_le q1 with e | e
    ·subst e; exact absurd q3.2 c2
    ·exact e
  ·rw [if_neg c1]
   refine ⟨r, h1, h2.trans ⟨fun ⟨j, q1, q2, q3⟩ => ⟨j, by omega, q2, q3⟩, fun ⟨j, q1, q2, q3⟩ => ⟨j, ?_, q2, q3⟩⟩⟩
   rcases Nat.eq_or_lt_of_le q1 with e | e
   ·subst e; exact absurd q3.1 c1
   ·exact e
end Go.Proofs.Ytnopjjilpgekfaa.PCa
namespace Go.Proofs.Ytnopjjilpgekfaa.PCa
open Go.RowKit Go.Proofs.YtnopjjilpgekfaaW.PrintWords Go.Proofs.YtnopjjilpgekfaaW.PrintLast Go.Proofs.YtnopjjilpgekfaaW.PrintMore
attribute [local go_sem] max2_int min2_int max_two min_two max_three min_three max_four min_four
set_option linter.unusedVariables false
set_option linter.unusedSimpArgs false
def topiaryref07_Within.f (a0_0 : Int) (a0_1 : Int) (a0_2 : Int) (l0_3 : List Int) (a0_4 : Int) (a0_5 : Int) (a0_6 : Int) (a0_7 : Int) (a0_8 : Int) (a0_9 : Int) (a0_10 : Int) (a0_11 : ByteArray) (a0_12 : ByteArray) (l1 : List Int) : Option (Bool) := (topiaryref02_At.f l1 a0_1).bind fun t166 => (some (decide (a0_2 ≤ t166)))
set_option maxHeartbeats 8000000 in
set_option maxRecDepth 100000 in
theorem topiaryref07_Within.calls (a0_0 : Int) (a0_1 : Int) (a0_2 : Int) (A0_3 : Option Addr) (c0_3 : Nat) (l0_3 : List Int) (a0_4 : Int) (a0_5 : Int) (a0_6 : Int) (a0_7 : Int) (a0_8 : Int) (a0_9 : Int) (a0_10 : Int) (a0_11 : ByteArray) (a0_12 : ByteArray) (A1 : Option Addr) (c1 : Nat) (l1 : List Int) (r : Bool) (w : World) (hr0_3 : Kd.C (Kd.int .i64) w A0_3 l0_3.length l0_3) (hc0_3 : l0_3.length ≤ c0_3) (hr1 : Kd.C (Kd.int .i64) w A1 l1.length l1) (hc1 : l1.length ≤ c1) (h : topiaryref07_Within.f a0_0 a0_1 a0_2 l0_3 a0_4 a0_5 a0_6 a0_7 a0_8 a0_9 a0_10 a0_11 a0_12 l1 = some r) :
  Calls Try.prog 50 #[.agg #[.int .i64 a0_0, .int .i64 a0_1, .int .i64 a0_2, .slice A0_3 l0_3.length c0_3, .int .i64 a0_4, .int .i64 a0_5, .int .i64 a0_6, .int .i64 a0_7, .int .i64 a0_8, .int .i64 a0_9, .int .i64 a0_10, .string a0_11, .string a0_12], .slice A1 l1.length c1] w fun e w' => e = .returned (.bool r) ∧ Below w.heap.size w w' := by
 have hu32 := Try.underlying32
 have HR0_3 := Aside0.mk hr0_3
 have HC0_3 := Aside0.mk hc0_3
 clear hr0_3 hc0_3
 have HR1 := Aside0.mk hr1
 have HC1 := Aside0.mk hc1
 clear hr1 hc1
 have HB := Aside0.mk (Below.refl w.heap.size w)
 have H : ((topiaryref02_At.f l1 a0_1).bind fun t166 => (some (decide (a0_2 ≤ t166)))) = some r := h
 clear h
 replace H := Option.bind_eq_some_iff.mp H
 obtain ⟨t166, A30, H⟩ := H
 replace H : (some (decide (a0_2 ≤ t166))) = some r := H
 have A3 := Aside0.mk A30
 clear A30
 obtain rfl := Option.some.inj H
 go_enter Try.func50, Try.ntmps50
 go_wp2_with (first | ((with_reducible refine gate_dst (N := 2) rfl ?_); refine box_event ?hg (N := 2) ?hd (cs := #[.int .i64 a0_0, .int .i64 a0_1, .int .i64 a0_2, .slice A0_3 l0_3.length c0_3, .int .i64 a0_4, .int .i64 a0_5, .int .i64 a0_6, .int .i64 a0_7, .int .i64 a0_8, .int .i64 a0_9, .int .i64 a0_10, .string a0_11, .string a0_12]) (t := 32) ?hr ?_; (case hd => rfl); (case hg => rfl); (case hr => first | (go_simp; done) | (go_simp; rfl)); intro gb165 hg w4 hbox hb; have n0_ := Aside0.mk (below_step (by repeat (first | (with_reducible first | exact HB.out | apply below_alloc | apply pw_below_drewN | apply below_drew1) | exact HB.out)) hb); have n1_ := Aside0.mk (hbox); have n2_ := Aside0.mk ((by rw [hg]; exact (below_size (by repeat (first | (with_reducible first | exact HB.out | apply below_alloc | apply pw_below_drewN | apply below_drew1) | exact HB.out))) : w.heap.size ≤ gb165)); have n3_ := Aside0.mk ((by rw [hg]; exact (below_size (by repeat (first | (with_reducible first | exact HB.out | apply below_alloc | apply pw_below_drewN | apply below_drew1) | exact HB.out))) : w.heap.size ≤ gb165)); clear HB; have HB := n0_; have BK165 := n1_; have GW165 := n2_; have GE165 := n3_; clear n0_ n1_ n2_ n3_; clear hb hbox hg; obtain ⟨hcz5_0, hcz5_1, hcz5_2, hcz5_3, hcz5_4, hcz5_5, hcz5_6, hcz5_7, hcz5_8, hcz5_9, hcz5_10, hcz5_11, hcz5_12⟩ := cells13 BK165.out) | (go_at_call 49; (try simp only [← List.length_take, ← List.length_drop]); (with_reducible refine (topiaryref02_At.calls _ _ l1 a0_1 t166 _ ?side1 ?side2 A3.out).mono ?_); (case side1 => repeat (first | exact (Kd.C_below HR1.out HB.out) | (with_reducible refine Kd.C_alloc ?_ _) | (with_reducible refine Kd.C_drewN ?_ _) | (with_reducible refine Kd.C_drew ?_))); (case side2 => exact HC1.out); rintro e w' ⟨rfl, ⟨nd, rfl⟩⟩; (try first | exact ⟨rfl, _, World.drewN_drewN _ _ _⟩ | exact ⟨rfl, _, Eq.trans (World.drewN_drewN _ _ _) (congrArg (World.drewN _) (Nat.add_assoc _ _ _))⟩)))
 repeat (go_quiet (first | (go_at_call 49; (try simp only [← List.length_take, ← List.length_drop]); (with_reducible refine (topiaryref02_At.calls _ _ l1 a0_1 t166 _ ?side1 ?side2 A3.out).mono ?_); (case side1 => repeat (first | exact (Kd.C_below HR1.out HB.out) | (with_reducible refine Kd.C_alloc ?_ _) | (with_reducible refine Kd.C_drewN ?_ _) | (with_reducible refine Kd.C_drew ?_))); (case side2 => exact HC1.out); rintro e w' ⟨rfl, ⟨nd, rfl⟩⟩; (try first | exact ⟨rfl, _, World.drewN_drewN _ _ _⟩ | exact ⟨rfl, _, Eq.trans (World.drewN_drewN _ _ _) (congrArg (World.drewN _) (Nat.add_assoc _ _ _))⟩))); try go_wp2_with (fail))
 go_ret
 exact ⟨by first | rfl | (simp [errW_none, errW_some] <;> rfl) | (simp [*, errW_none, errW_some] <;> rfl), by repeat (first | (with_reducible first | exact HB.out | apply below_alloc | apply pw_below_drewN | apply below_drew1 | refine below_set ?_ GE165.out) | exact HB.out)⟩
def topiaryref09_Stale.l0 : Nat → List Int → List (S32) → Int → Int → List (S32) → Option (Int × (List (S32)) × Int)
 | 0, _, _, _, _, _ => none
 | k + 1, x1, x6, x7, x565000, x565001 => if x7 < (x565001.length : Int) then (if 0 ≤ x7 then ((topiaryref07_Within.f ((rd_T32 x565001 x7).f0.f0) ((rd_T32 x565001 x7).f0.f1) ((rd_T32 x565001 x7).f1) ((rd_T32 x565001 x7).f2) ((rd_T32 x565001 x7).f3) ((rd_T32 x565001 x7).f4.f0) ((rd_T32 x565001 x7).f4.f1) ((rd_T32 x565001 x7).f5.f0) ((rd_T32 x565001 x7).f5.f1) ((rd_T32 x565001 x7).f6.f0) ((rd_T32 x565001 x7).f6.f1) ((rd_T32 x565001 x7).f7) ((rd_T32 x565001 x7).f8) x1).bind fun t571 => (if t571 = true then (topiaryref09_Stale.l0 k x1 x6 (wrap64 (x7 + 1)) x565000 x565001) else (if x6.length < 1034834473200 then (topiaryref09_Stale.l0 k x1 (x6 ++ [(⟨(⟨(rd_T32 x565001 x7).f0.f0, (rd_T32 x565001 x7).f0.f1⟩ : S30), (rd_T32 x565001 x7).f1, (rd_T32 x565001 x7).f2, (rd_T32 x565001 x7).f3, (⟨(rd_T32 x565001 x7).f4.f0, (rd_T32 x565001 x7).f4.f1⟩ : S30), (⟨(rd_T32 x565001 x7).f5.f0, (rd_T32 x565001 x7).f5.f1⟩ : S30), (⟨(rd_T32 x565001 x7).f6.f0, (rd_T32 x565001 x7).f6.f1⟩ : S30), (rd_T32 x565001 x7).f7, (rd_T32 x565001 x7).f8⟩ : S32)]) (wrap64 (x7 + 1)) x565000 x565001) else (none)))) else (none)) else (some (x565000, x6, wrap64 ((x565001.length : Int) - (x6.length : Int))))
def topiaryref09_Stale.f (k : Nat) (a0_0 : Int) (l0_1 : List (S32)) (l1 : List Int) : Option (Int × (List (S32)) × Int) := (topiaryref02_Check.f k l1).bind fun t566 => (if t566 = 0 then (topiaryref09_Stale.l0 k l1 (([] : List (S32))) 0 a0_0 l0_1) else (some (a0_0, l0_1, 0)))
theorem topiaryref09_Stale.mono_l : ∀ k, (∀ y0 y1 y2 y3 y4, LeO (topiaryref09_Stale.l0 k y0 y1 y2 y3 y4) (topiaryref09_Stale.l0 (k + 1) y0 y1 y2 y3 y4))
 | 0 => fun _ _ _ _ _ r h => by simp [topiaryref09_Stale.l0] at h
 | k + 1 => by
  have ih0 := topiaryref09_Stale.mono_l k
  ·intro y0 y1 y2 y3 y4
   unfold topiaryref09_Stale.l0
   repeat' first
   | (with_reducible exact ih0 _ _ _ _ _)
   | (with_reducible exact topiaryref02_Check.mono _ _)
   | (with_reducible exact LeO.refl _)
   | (with_reducible exact LeO.none _)
   | (with_reducible refine LeO.ite ?_ ?_)
   | (with_reducible refine LeO.bind ?_ (fun _ => ?_))
   | exact ih0 _ _ _ _ _
   | exact topiaryref02_Check.mono _ _
   | exact LeO.none _
   | refine LeO.ite ?_ ?_
   | refine LeO.bind ?_ (fun _ => ?_)
theorem topiaryref09_Stale.mono : ∀ a0 a1 a2 k, LeO (topiaryref09_Stale.f k a0 a1 a2) (topiaryref09_Stale.f (k + 1) a0 a1 a2) := by
 intro a0 a1 a2 k
 have ih0 := topiaryref09_Stale.mono_l k
 unfold topiaryref09_Stale.f
 repeat' first
   | (with_reducible exact ih0 _ _ _ _ _)
   | (with_reducible exact topiaryref02_Check.mono _ _)
   | (with_reducible exact LeO.refl _)
   | (with_reducible exact LeO.none _)
   | (with_reducible refine LeO.ite ?_ ?_)
   | (with_reducible refine LeO.bind ?_ (fun _ => ?_))
   | exact ih0 _ _ _ _ _
   | exact topiaryref02_Check.mono _ _
   | exact LeO.none _
   | refine LeO.ite ?_ ?_
   | refine LeO.bind ?_ (fun _ => ?_)
end Go.Proofs.Ytnopjjilpgekfaa.PCa
namespace Go.Proofs.Ytnopjjilpgekfaa.PCa
open Go.RowKit Go.Proofs.YtnopjjilpgekfaaW.PrintWords Go.Proofs.YtnopjjilpgekfaaW.PrintLast Go.Proofs.YtnopjjilpgekfaaW.PrintMore
set_option linter.unusedVariables false
set_option linter.unusedSimpArgs false
theorem rd32_drop {l : List S32} {i : Nat} (h : i < l.length) : l.drop i = rd_T32 l (i : Int) :: l.drop (i + 1) := by
 rw [List.drop_eq_getElem_cons h]
 congr 1
 unfold rd_T32
 simp [List.getD_eq_getElem?_getD, h]
def withinX (known : List Int) (x : S32) : Bool := decide (x.f1 ≤ atC known x.f0.f1)
theorem within_is (known : List Int) (x : S32) : topiaryref07_Within.f x.f0.f0 x.f0.f1 x.f1 x.f2 x.f3 x.f4.f0 x.f4.f1 x.f5.f0 x.f5.f1 x.f6.f0 x.f6.f1 x.f7 x.f8 known = some (withinX known x) := by
 unfold topiaryref07_Within.f withinX
 rw [ref_At_is, Option.bind_some]
end Go.Proofs.Ytnopjjilpgekfaa.PCa
namespace Go.Proofs.Ytnopjjilpgekfaa.PCa
open Go.RowKit Go.Proofs.YtnopjjilpgekfaaW.PrintWords Go.Proofs.YtnopjjilpgekfaaW.PrintLast Go.Proofs.YtnopjjilpgekfaaW.PrintMore
attribute [local go_sem] max2_int min2_int max_two min_two max_three min_three max_four min_four
set_option linter.unusedVariables false
set_option linter.unusedSimpArgs false
def topiaryref09_put.l0 : Nat → List (S32) → List (S32) → Bool → Int → Int → Int → Int → List Int → Int → Int → Int → Int → Int → Int → Int → ByteArray → ByteArray → Option ((List (S32)))
 | 0, _, _, _, _, _, _, _, _, _, _, _, _, _, _, _, _, _ => none
 | k + 1, x0, x5, x6, x7, x467000, x467001, x467002, x467003, x467004, x467005, x467006, x467007, x467008, x467009, x467010, x467011, x467012 => if x7 < (x0.length : Int) then (if x6 = true then (if 0 ≤ x7 then (if x5.length < 1034834473200 then (topiaryref09_put.l0 k x0 (x5 ++ [(⟨(⟨(rd_T32 x0 x7).f0.f0, (rd_T32 x0 x7).f0.f1⟩ : S30), (rd_T32 x0 x7).f1, (rd_T32 x0 x7).f2, (rd_T32 x0 x7).f3, (⟨(rd_T32 x0 x7).f4.f0, (rd_T32 x0 x7).f4.f1⟩ : S30), (⟨(rd_T32 x0 x7).f5.f0, (rd_T32 x0 x7).f5.f1⟩ : S30), (⟨(rd_T32 x0 x7).f6.f0, (rd_T32 x0 x7).f6.f1⟩ : S30), (rd_T32 x0 x7).f7, (rd_T32 x0 x7).f8⟩ : S32)]) x6 (wrap64 (x7 + 1)) x467000 x467001 x467002 x467003 x467004 x467005 x467006 x467007 x467008 x467009 x467010 x467011 x467012) else (none)) else (none)) else (if 0 ≤ x7 then ((topiaryref09_before.f x467000 x467001 x467002 x467003 x467004 x467005 x467006 x467007 x467008 x467009 x467010 x467011 x467012 ((rd_T32 x0 x7).f0.f0) ((rd_T32 x0 x7).f0.f1) ((rd_T32 x0 x7).f1) ((rd_T32 x0 x7).f2) ((rd_T32 x0 x7).f3) ((rd_T32 x0 x7).f4.f0) ((rd_T32 x0 x7).f4.f1) ((rd_T32 x0 x7).f5.f0) ((rd_T32 x0 x7).f5.f1) ((rd_T32 x0 x7).f6.f0) ((rd_T32 x0 x7).f6.f1) ((rd_T32 x0 x7).f7) ((rd_T32 x0 x7).f8)).bind fun t475 => (if t475 = true then (if x5.length < 1034834473200 then ((some (x5 ++ [(⟨(⟨x467000, x467001⟩ : S30), x467002, x467003, x467004, (⟨x467005, x467006⟩ : S30), (⟨x467007, x467008⟩ : S30), (⟨x467009, x467010⟩ : S30), x467011, x467012⟩ : S32)] : List (S32))).bind fun y476 => (if y476.length < 1034834473200 then (topiaryref09_put.l0 k x0 (y476 ++ [(⟨(⟨(rd_T32 x0 x7).f0.f0, (rd_T32 x0 x7).f0.f1⟩ : S30), (rd_T32 x0 x7).f1, (rd_T32 x0 x7).f2, (rd_T32 x0 x7).f3, (⟨(rd_T32 x0 x7).f4.f0, (rd_T32 x0 x7).f4.f1⟩ : S30), (⟨(rd_T32 x0 x7).f5.f0, (rd_T32 x0 x7).f5.f1⟩ : S30), (⟨(rd_T32 x0 x7).f6.f0, (rd_T32 x0 x7).f6.f1⟩ : S30), (rd_T32 x0 x7).f7, (rd_T32 x0 x7).f8⟩ : S32)]) true (wrap64 (x7 + 1)) x467000 x467001 x467002 x467003 x467004 x467005 x467006 x467007 x467008 x467009 x467010 x467011 x467012) else (none))) else (none)) else (if x5.length < 1034834473200 then (topiaryref09_put.l0 k x0 (x5 ++ [(⟨(⟨(rd_T32 x0 x7).f0.f0, (rd_T32 x0 x7).f0.f1⟩ : S30), (rd_T32 x0 x7).f1, (rd_T32 x0 x7).f2, (rd_T32 x0 x7).f3, (⟨(rd_T32 x0 x7).f4.f0, (rd_T32 x0 x7).f4.f1⟩ : S30), (⟨(rd_T32 x0 x7).f5.f0, (rd_T32 x0 x7).f5.f1⟩ : S30), (⟨(rd_T32 x0 x7).f6.f0, (rd_T32 x0 x7).f6.f1⟩ : S30), (rd_T32 x0 x7).f7, (rd_T32 x0 x7).f8⟩ : S32)]) x6 (wrap64 (x7 + 1)) x467000 x467001 x467002 x467003 x467004 x467005 x467006 x467007 x467008 x467009 x467010 x467011 x467012) else (none)))) else (none))) else (if x6 = true then (some x5) else (if x5.length < 1034834473200 then (some (x5 ++ [(⟨(⟨x467000, x467001⟩ : S30), x467002, x467003, x467004, (⟨x467005, x467006⟩ : S30), (⟨x467007, x467008⟩ : S30), (⟨x467009, x467010⟩ : S30), x467011, x467012⟩ : S32)])) else (none)))
def topiaryref09_put.f (k : Nat) (l0 : List (S32)) (a1_0 : Int) (a1_1 : Int) (a1_2 : Int) (l1_3 : List Int) (a1_4 : Int) (a1_5 : Int) (a1_6 : Int) (a1_7 : Int) (a1_8 : Int) (a1_9 : Int) (a1_10 : Int) (a1_11 : ByteArray) (a1_12 : ByteArray) : Option ((List (S32))) := topiaryref09_put.l0 k l0 (([] : List (S32))) false 0 a1_0 a1_1 a1_2 l1_3 a1_4 a1_5 a1_6 a1_7 a1_8 a1_9 a1_10 a1_11 a1_12
theorem topiaryref09_put.mono_l : ∀ k, (∀ y0 y1 y2 y3 y4 y5 y6 y7 y8 y9 y10 y11 y12 y13 y14 y15 y16, LeO (topiaryref09_put.l0 k y0 y1 y2 y3 y4 y5 y6 y7 y8 y9 y10 y11 y12 y13 y14 y15 y16) (topiaryref09_put.l0 (k + 1) y0 y1 y2 y3 y4 y5 y6 y7 y8 y9 y10 y11 y12 y13 y14 y15 y16))
 | 0 => fun _ _ _ _ _ _ _ _ _ _ _ _ _ _ _ _ _ r h => by simp [topiaryref09_put.l0] at h
 | k + 1 => by
  have ih0 := topiaryref09_put.mono_l k
  ·intro y0 y1 y2 y3 y4 y5 y6 y7 y8 y9 y10 y11 y12 y13 y14 y15 y16
   unfold topiaryref09_put.l0
   repeat' first
   | (with_reducible exact ih0 _ _ _ _ _ _ _ _ _ _ _ _ _ _ _ _ _)
   | (with_reducible exact LeO.refl _)
   | (with_reducible exact LeO.none _)
   | (with_reducible refine LeO.ite ?_ ?_)
   | (with_reducible refine LeO.bind ?_ (fun _ => ?_))
   | exact ih0 _ _ _ _ _ _ _ _ _ _ _ _ _ _ _ _ _
   | exact LeO.none _
   | refine LeO.ite ?_ ?_
   | refine LeO.bind ?_ (fun _ => ?_)
theorem topiaryref09_put.mono : ∀ a0 a1 a2 a3 a4 a5 a6 a7 a8 a9 a10 a11 a12 a13 k, LeO (topiaryref09_put.f k a0 a1 a2 a3 a4 a5 a6 a7 a8 a9 a10 a11 a12 a13) (topiaryref09_put.f (k + 1) a0 a1 a2 a3 a4 a5 a6 a7 a8 a9 a10 a11 a12 a13) := by
 intro a0 a1 a2 a3 a4 a5 a6 a7 a8 a9 a10 a11 a12 a13 k
 have ih0 := topiaryref09_put.mono_l k
 unfold topiaryref09_put.f
 repeat' first
   | (with_reducible exact ih0 _ _ _ _ _ _ _ _ _ _ _ _ _ _ _ _ _)
   | (with_reducible exact LeO.refl _)
   | (with_reducible exact LeO.none _)
   | (with_reducible refine LeO.ite ?_ ?_)
   | (with_reducible refine LeO.bind ?_ (fun _ => ?_))
   | exact ih0 _ _ _ _ _ _ _ _ _ _ _ _ _ _ _ _ _
   | exact LeO.none _
   | refine LeO.ite ?_ ?_
   | refine LeO.bind ?_ (fun _ => ?_)
end Go.Proofs.Ytnopjjilpgekfaa.PCa
namespace Go.Proofs.Ytnopjjilpgekfaa.PCa
open Go.RowKit Go.Proofs.YtnopjjilpgekfaaW.PrintWords Go.Proofs.YtnopjjilpgekfaaW.PrintLast Go.Proofs.YtnopjjilpgekfaaW.PrintMore
set_option linter.unusedVariables false
set_option linter.unusedSimpArgs false
/-- A change among those that are held: ahead of the first that it is ahead of. -/
def putC (c : S32) : List S32 → List S32
 | [] => [c]
 | x :: t => if befX c x = true then c :: x :: t else x :: putC c t
/-- The place of the first that is ready; -1: none is. -/
def nextI (known : List Int) : List S32 → Nat → Int
 | [], _ => -1
 | x :: t, i => if ripeC known x = true then (i : Int) else nextI known t (i + 1)
theorem next_loop (l : List S32) (known : List Int) (hl : l.length < 90000) (hx : ∀ x ∈ l, x.f2.length ≤ 64 ∧ 0 ≤ x.f1 ∧ x.f1 ≤ 1099511627776) : ∀ (n i k : Nat), i + n = l.length → n + 80 < k →
  topiaryref09_next.l0 k known l (i : Int) = some (nextI known (l.drop i) i) := by
 intro n
 induction n with
 | zero =>
  intro i k hi hk
  obtain ⟨k, rfl⟩ : ∃ m, k = m + 1 := ⟨k - 1, by omega⟩
  rw [topiaryref09_next.l0, if_neg (by omega), List.drop_of_length_le (by omega)]
  rfl
 | succ n ih =>
  intro i k hi hk
  obtain ⟨k, rfl⟩ : ∃ m, k = m + 1 := ⟨k - 1, by omega⟩
  have hd := rd32_drop (by omega : i < l.length)
  have hm : rd_T32 l (i : Int) ∈ l := List.mem_of_mem_drop (i := i) (by rw [hd]; exact List.mem_cons_self)
  have hq := hx _ hm
  rw [topiaryref09_next.l0, if_pos (by omega), if_pos (by omega), ripe_is hq.1 hq.2.1 hq.2.2 k (by omega), Option.bind_some, w1 (by omega), hd, nextI]
  cases ripeC known (rd_T32 l (i : Int)) with
  | true => rfl
  | false =>
   have hf : ¬ (false = true) := by decide
   rw [if_neg hf, if_neg hf, ih (i + 1) k (by omega) (by omega)]
end Go.Proofs.Ytnopjjilpgekfaa.PCa
namespace Go.Proofs.Ytnopjjilpgekfaa.PCa
open Go.RowKit Go.Proofs.YtnopjjilpgekfaaW.PrintWords Go.Proofs.YtnopjjilpgekfaaW.PrintLast Go.Proofs.YtnopjjilpgekfaaW.PrintMore
attribute [local go_sem] max2_int min2_int max_two min_two max_three min_three max_four min_four
set_option linter.unusedVariables false
set_option linter.unusedSimpArgs false
def causal_tick.f (k : Nat) (l0 : List Int) (a1_0 : Int) (a1_1 : Int) (a1_2 : Int) (l1_3 : List Int) (a1_4 : Int) (a1_5 : Int) (a1_6 : Int) (a1_7 : Int) (a1_8 : Int) (a1_9 : Int) (a1_10 : Int) (a1_11 : ByteArray) (a1_12 : ByteArray) : Option (List Int) := (clock_Tick.f k l0 a1_1).bind fun bt206 => (some bt206.1)
theorem causal_tick.mono : ∀ a0 a1 a2 a3 a4 a5 a6 a7 a8 a9 a10 a11 a12 a13 k, LeO (causal_tick.f k a0 a1 a2 a3 a4 a5 a6 a7 a8 a9 a10 a11 a12 a13) (causal_tick.f (k + 1) a0 a1 a2 a3 a4 a5 a6 a7 a8 a9 a10 a11 a12 a13) := by
 intro a0 a1 a2 a3 a4 a5 a6 a7 a8 a9 a10 a11 a12 a13 k
 unfold causal_tick.f
 repeat' first
   | (with_reducible exact clock_Tick.mono _ _ _)
   | (with_reducible exact LeO.refl _)
   | (with_reducible exact LeO.none _)
   | (with_reducible refine LeO.ite ?_ ?_)
   | (with_reducible refine LeO.bind ?_ (fun _ => ?_))
   | exact clock_Tick.mono _ _ _
   | exact LeO.none _
   | refine LeO.ite ?_ ?_
   | refine LeO.bind ?_ (fun _ => ?_)
set_option maxHeartbeats 8000000 in
set_option maxRecDepth 100000 in
theorem causal_tick.calls (k : Nat) (A0 : Option Addr) (c0 : Nat) (l0 : List Int) (a1_0 : Int) (a1_1 : Int) (a1_2 : Int) (A1_3 : Option Addr) (c1_3 : Nat) (l1_3 : List Int) (a1_4 : Int) (a1_5 : Int) (a1_6 : Int) (a1_7 : Int) (a1_8 : Int) (a1_9 : Int) (a1_10 : Int) (a1_11 : ByteArray) (a1_12 : ByteArray) (r : List Int) (w : World) (hr0 : Kd.C (Kd.int .i64) w A0 l0.length l0) (hc0 : l0.length ≤ c0) (hr1_3 : Kd.C (Kd.int .i64) w A1_3 l1_3.length l1_3) (hc1_3 : l1_3.length ≤ c1_3) (h : causal_tick.f k l0 a1_0 a1_1 a1_2 l1_3 a1_4 a1_5 a1_6 a1_7 a1_8 a1_9 a1_10 a1_11 a1_12 = some r) :
  Calls Try.prog 66 #[.slice A0 l0.length c0, .agg #[.int .i64 a1_0, .int .i64 a1_1, .int .i64 a1_2, .slice A1_3 l1_3.length c1_3, .int .i64 a1_4, .int .i64 a1_5, .int .i64 a1_6, .int .i64 a1_7, .int .i64 a1_8, .int .i64 a1_9, .int .i64 a1_10, .string a1_11, .string a1_12]] w fun e w' => ∃ v0_ : Value, e = .returned (v0_) ∧ Kd.R (Kd.int .i64) 3 w' w.heap.size (fun _ => True) v0_ r ∧ Below w.heap.size w w' := by
 have hu32 := Try.underlying32
 have HR0 := Aside0.mk hr0
 have HC0 := Aside0.mk hc0
 clear hr0 hc0
 have HR1_3 := Aside0.mk hr1_3
 have HC1_3 := Aside0.mk hc1_3
 clear hr1_3 hc1_3
 have HB := Aside0.mk (Below.refl w.heap.size w)
 have H : ((clock_Tick.f k l0 a1_1).bind fun bt206 => (some bt206.1)) = some r := h
 clear h
 replace H := Option.bind_eq_some_iff.mp H
 obtain ⟨⟨t206, t207⟩, A30, H⟩ := H
 replace H : (some t206) = some r := H
 have A3 := Aside0.mk A30
 clear A30
 obtain rfl := Option.some.inj H
 go_enter Try.func66, Try.ntmps66
 go_wp2_with (first | ((with_reducible refine gate_dst (N := 3) rfl ?_); refine box_event ?hg (N := 3) ?hd (cs := #[.int .i64 a1_0, .int .i64 a1_1, .int .i64 a1_2, .slice A1_3 l1_3.length c1_3, .int .i64 a1_4, .int .i64 a1_5, .int .i64 a1_6, .int .i64 a1_7, .int .i64 a1_8, .int .i64 a1_9, .int .i64 a1_10, .string a1_11, .string a1_12]) (t := 32) ?hr ?_; (case hd => rfl); (case hg => rfl); (case hr => first | (go_simp; done) | (go_simp; rfl)); intro gb205 hg w4 hbox hb; have n0_ := Aside0.mk (below_step (by repeat (first | (with_reducible first | exact HB.out | apply below_alloc | apply pw_below_drewN | apply below_drew1) | exact HB.out)) hb); have n1_ := Aside0.mk (hbox); have n2_ := Aside0.mk ((by rw [hg]; exact (below_size (by repeat (first | (with_reducible first | exact HB.out | apply below_alloc | apply pw_below_drewN | apply below_drew1) | exact HB.out))) : w.heap.size ≤ gb205)); have n3_ := Aside0.mk ((by rw [hg]; exact (below_size (by repeat (first | (with_reducible first | exact HB.out | apply below_alloc | apply pw_below_drewN | apply below_drew1) | exact HB.out))) : w.heap.size ≤ gb205)); clear HB; have HB := n0_; have BK205 := n1_; have GW205 := n2_; have GE205 := n3_; clear n0_ n1_ n2_ n3_; clear hb hbox hg; obtain ⟨hcz5_0, hcz5_1, hcz5_2, hcz5_3, hcz5_4, hcz5_5, hcz5_6, hcz5_7, hcz5_8, hcz5_9, hcz5_10, hcz5_11, hcz5_12⟩ := cells13 BK205.out) | ((with_reducible refine gate_callee (f := 80) rfl ?_); refine goesL_ (some 12) rfl rfl Try.func80 (by kernel_rfl) rfl #[.slice A0 l0.length c0, .int .i64 a1_1] rfl (by (try simp only [List.map_toArray, List.map_cons, List.map_nil]); first | done | rfl | (simp only [List.length_drop, List.length_take]; rfl)) ?_; (with_reducible refine (clock_Tick.calls k _ _ l0 a1_1 t206 t207 _ ?side1 ?side2 A3.out).mono ?_); (case side1 => repeat (first | exact (Kd.C_below HR0.out HB.out) | (with_reducible refine Kd.C_alloc ?_ _) | (with_reducible refine Kd.C_drewN ?_ _) | (with_reducible refine Kd.C_drew ?_))); (case side2 => exact HC0.out); rintro e w6 ⟨v208, rfl, ho0, hb⟩; refine ⟨_, rfl, ?_⟩; have n0_ := Aside0.mk (Kd.R_lower ho0 (below_size (by repeat (first | (with_reducible first | exact HB.out | apply below_alloc | apply pw_below_drewN | apply below_drew1 | refine below_set ?_ GE205.out) | exact HB.out)))); have n1_ := Aside0.mk (blk_below (g := gb205) (o := .cells #[.int .i64 a1_0, .int .i64 a1_1, .int .i64 a1_2, .slice A1_3 l1_3.length c1_3, .int .i64 a1_4, .int .i64 a1_5, .int .i64 a1_6, .int .i64 a1_7, .int .i64 a1_8, .int .i64 a1_9, .int .i64 a1_10, .string a1_11, .string a1_12] 32 (0, 0)) (by (with_reducible repeat (first | refine blk_drewN ?_ _ | refine blk_drew ?_ | refine blk_alloc ?_ _)); exact BK205.out) hb); have n2_ := Aside0.mk (below_step (by repeat (first | (with_reducible first | exact HB.out | apply below_alloc | apply pw_below_drewN | apply below_drew1 | refine below_set ?_ GE205.out) | exact HB.out)) hb); clear BK205; clear HB; have HO209 := n0_; have BK205 := n1_; have HB := n2_; clear n0_ n1_ n2_; (try clear hb); (try clear hb2); (try clear hk); (try clear hi); (try clear ho0)))
 go_ret
 exact ⟨_, by first | rfl | (simp [errW_none, errW_some] <;> rfl) | (simp [*, errW_none, errW_some] <;> rfl), by (with_reducible repeat (first | apply Kd.R_alloc | apply Kd.R_drewN | apply Kd.R_drew)); exact HO209.out, by repeat (first | (with_reducible first | exact HB.out | apply below_alloc | apply pw_below_drewN | apply below_drew1 | refine below_set ?_ GE205.out) | exact HB.out)⟩
end Go.Proofs.Ytnopjjilpgekfaa.PCa
namespace Go.Proofs.Ytnopjjilpgekfaa.PCa
open Go.RowKit Go.Proofs.YtnopjjilpgekfaaW.PrintWords Go.Proofs.YtnopjjilpgekfaaW.PrintLast Go.Proofs.YtnopjjilpgekfaaW.PrintMore
set_option linter.unusedVariables false
set_option linter.unusedSimpArgs false
theorem badN_false {n : Int} (h0 : 0 ≤ n) (h1 : n ≤ 1099511627776) : badN n = false := by
 unfold badN
 rw [decide_eq_false (by omega), decide_eq_false (by omega)]
 rfl
theorem chk_zero {l : List Int} (hl : l.length ≤ 64) (h : ∀ n ∈ l, 0 ≤ n ∧ n ≤ 1099511627776) : chkC l = 0 := by
 unfold chkC
 rw [if_neg (by omega), if_neg]
 rw [Bool.not_eq_true, List.any_eq_false]
 intro n hn
 rw [badN_false (h n hn).1 (h n hn).2]
 decide
theorem chk_mem {l : List Int} (h : chkC l = 0) : ∀ n ∈ l, 0 ≤ n ∧ n ≤ 1099511627776 := by
 intro n hn
 obtain ⟨i, hi, rfl⟩ := List.mem_iff_getElem.1 hn
 have := chk_rd h (i : Int)
 unfold atC at this
 rw [if_neg (by omega)] at this
 unfold rd at this
 simpa [List.getD_eq_getElem?_getD, hi] using this
theorem tick_chk (l : List Int) (r : Int) : chkC (tickC l r).1 = 0 := by
 unfold tickC
 by_cases h : chkC l = 0
 ·rw [if_pos h]
  by_cases h2 : r < 0 ∨ 64 ≤ r
  ·rw [if_pos h2]; rfl
  ·rw [if_neg h2]
   by_cases h3 : atC l r = 1099511627776
   ·rw [if_pos h3]; rfl
   ·rw [if_neg h3]
    have hl := chk_len h
    have hrow : (clock_Tick.row l r).length ≤ 64 := by
     have := clock_Tick.row_len (l := l) (r := r) (by omega)
     omega
    have hmem : ∀ n ∈ clock_Tick.row l r, 0 ≤ n ∧ n ≤ 1099511627776 := by
     intro n hn
     unfold clock_Tick.row at hn
     rcases List.mem_append.1 hn with hn | hn
     ·exact chk_mem h n hn
     ·rw [List.eq_of_mem_replicate hn]; omega
    have hat := chk_rd h r
    refine chk_zero ?_ ?_
    ·refine Nat.le_trans (List.length_take_le _ _) ?_
     refine Nat.le_trans (trimN_le _ _) ?_
     unfold clock_Tick.bump
     rw [List.length_set]
     exact hrow
    ·intro n hn
     have hn2 := List.mem_of_mem_take hn
     unfold clock_Tick.bump at hn2
     rcases List.mem_or_eq_of_mem_set hn2 with hn3 | hn3
     ·exact hmem n hn3
     ·rw [row_rd (by omega)] at hn3
      omega
 ·rw [if_neg h]; rfl
theorem causal_tick_is (l : List Int) (x : S32) (k : Nat) (hk : 300 < k) : causal_tick.f k l x.f0.f0 x.f0.f1 x.f1 x.f2 x.f3 x.f4.f0 x.f4.f1 x.f5.f0 x.f5.f1 x.f6.f0 x.f6.f1 x.f7 x.f8 = some (tickC l x.f0.f1).1 := by
 unfold causal_tick.f
 rw [clock_Tick_is l _ k hk, Option.bind_some]
/-- What comes out, and what is left. -/
def relF : Nat → List Int → List S32 → List S32 → List S32 × List S32
 | 0, _, out, left => (out, left)
 | n + 1, now, out, left => if 0 ≤ nextI now left 0 then relF n (tickC now (rd_T32 left (nextI now left 0)).f0.f1).1 (out ++ [rd_T32 left (nextI now left 0)]) (left.eraseIdx (nextI now left 0).toNat) else (out, left)
theorem next_none (now : List Int) : ∀ (l : List S32) (i : Nat), (∀ x ∈ l, ripeC now x = false) → nextI now l i = -1
 | [], _, _ => rfl
 | x :: t, i, h => by
  rw [nextI, h x List.mem_cons_self, if_neg (by decide)]
  exact next_none now t (i + 1) (fun y hy => h y (List.mem_cons_of_mem _ hy))
theorem next_at (now : List Int) : ∀ (l : List S32) (i j : Nat) (x : S32), l[j]? = some x → ripeC now x = true → (∀ (m : Nat) (y : S32), m < j → l[m]? = some y → ripeC now y = false) → nextI now l i = ((i + j : Nat) : Int)
 | [], _, _, _, h, _, _ => by cases h
 | x :: t, i, j, y, h, hr, hb => by
  cases j with
  | zero =>
   injection h with h
   subst h
   rw [nextI, if_pos hr]
   rfl
  | succ j =>
   rw [nextI, hb 0 x (Nat.succ_pos _) rfl, if_neg (by decide), next_at now t (i + 1) j y h hr (fun m y hm hy => hb (m + 1) y (Nat.succ_lt_succ hm) hy)]
   congr 1
   omega
theorem relF_none {now : List Int} {out left : List S32} (h : ∀ x ∈ left, ripeC now x = false) : relF left.length now out left = (out, left) := by
 cases hl : left.length with
 | zero => rfl
 | succ n => rw [relF, next_none now left 0 h, if_neg (by decide)]
theorem rd32_at {l : List S32} {j : Nat} (h : j < l.length) : l[j]? = some (rd_T32 l (j : Int)) := by
 rw [List.getElem?_eq_getElem h, rd_T32, Int.toNat_natCast, List.getD_eq_getElem?_getD, List.getElem?_eq_getElem h, Option.getD_some]
theorem relF_next {now : List Int} {out left : List S32} {j : Nat} (hj : j < left.length) (hr : ripeC now (rd_T32 left (j : Int)) = true) (hb : ∀ m, m < j → ripeC now (rd_T32 left (m : Int)) = false) :
  relF left.length now out left = relF (left.eraseIdx j).length (tickC now (rd_T32 left (j : Int)).f0.f1).1 (out ++ [rd_T32 left (j : Int)]) (left.eraseIdx j) := by
 have hn := next_at now left 0 j _ (rd32_at hj) hr (fun m y hm hy => by
  have h1 := hb m hm
  rw [rd32_at (by omega)] at hy
  injection hy with hy
  rw [← hy]; exact h1)
 rw [Nat.zero_add] at hn
 obtain ⟨n, hl⟩ : ∃ n, left.length = n + 1 := ⟨left.length - 1, by omega⟩
 rw [List.length_eraseIdx_of_lt hj, hl, relF, hn, if_pos (by omega), Int.toNat_natCast]
 rfl
section
variable {w w1 W W1 : World} {base g : Nat} {P P' X : Nat → Prop} {room : Int} {l : List S32}
theorem BufI.bound (h : BufI w base P g room l) : BufI w base (fun k => P k ∧ k < w.heap.size) g room l := by
 obtain ⟨mb, es, c, A, ch, h⟩ := h.opened
 exact ⟨mb, es, c, A, ch, h.blk, h.bg, ⟨h.Pg, blk_lt h.blk⟩, h.bm, ⟨h.Pm, blk_lt h.map⟩, h.map, h.ok, Kd.S_mono h.row (fun k hk => ⟨hk.1, hk.2.1⟩)⟩
theorem BufI.mono (h : BufI w base P g room l) (hP : ∀ k, P k → P' k) : BufI w base P' g room l := by
 obtain ⟨mb, es, c, A, ch, h1, h2, h3, h4, h5, h6, h7, h8⟩ := h
 exact ⟨mb, es, c, A, ch, h1, h2, hP g h3, h4, hP mb h5, h6, h7, Kd.S_mono h8 (fun k hk => ⟨hP k hk.1, hk.2⟩)⟩
theorem BufI.step (h : BufI w base P g room l) (hm : ∀ k, P k → k < w.heap.size → w1.heap[k]? = w.heap[k]?) : BufI w1 base P g room l := by
 obtain ⟨mb, es, c, A, ch, h⟩ := h.opened
 refine ⟨mb, es, c, A, ch, (hm g h.Pg (blk_lt h.blk)).trans h.blk, h.bg, h.Pg, h.bm, h.Pm, (hm mb h.Pm (blk_lt h.map)).trans h.map, h.ok, Kd.S_mono (Kd.S_step h.row (fun k hk hlt => hm k hk.1.1 hlt)) (fun k hk => ⟨hk.1.1, hk.2.1⟩)⟩
theorem BufI.below (h : BufI w base P g room l) (hb : Below w.heap.size w w1) : BufI w1 base P g room l := h.step (fun k _ hk => hb.block k hk)
theorem BufI.base_le (h : BufI w base P g room l) : base ≤ w.heap.size := by
 obtain ⟨mb, es, c, A, ch, h⟩ := h.opened
 have h1 := blk_lt h.blk
 have h2 := h.bg
 omega
/-- What the loop keeps: the world w is that of the call; P the buffer's blocks, X those of the change that came. -/
structure RelI (w : World) (base : Nat) (P X : Nat → Prop) (g : Nat) (room : Int) (W : World) (kv ov : Value) (now : List Int) (out left : List S32) (P' O K : Nat → Prop) : Prop where
 buf : BufI W base P' g room left
 rows : Kd.S k32 32 W base O ov out
 clk : (Kd.int .i64).R 3 W base K kv now
 chk : chkC now = 0
 P'P : ∀ k, P' k → P k ∧ k < W.heap.size
 OP' : ∀ k, O k → ¬ P' k ∧ k < W.heap.size
 OX : ∀ k, O k → X k ∨ P k ∨ w.heap.size ≤ k
 KP' : ∀ k, K k → ¬ P' k ∧ ¬ O k
 kept : Kept w W P
 fresh : ∀ k, ov.ownBlock = some k → w.heap.size ≤ k
theorem RelI.below {kv ov : Value} {now : List Int} {out left : List S32} {O K : Nat → Prop} (h : RelI w base P X g room W kv ov now out left P' O K) (hb : Below W.heap.size W W1) : RelI w base P X g room W1 kv ov now out left P' O K :=
 ⟨h.buf.below hb, Kd.S_below h.rows hb, Kd.R_below h.clk hb, h.chk, fun k hk => ⟨(h.P'P k hk).1, Nat.lt_of_lt_of_le (h.P'P k hk).2 hb.size⟩, fun k hk => ⟨(h.OP' k hk).1, Nat.lt_of_lt_of_le (h.OP' k hk).2 hb.size⟩, h.OX, h.KP', h.kept.below hb, h.fresh⟩
end
end Go.Proofs.Ytnopjjilpgekfaa.PCa
namespace Go.Proofs.Ytnopjjilpgekfaa.PCa
open Go.RowKit Go.Proofs.YtnopjjilpgekfaaW.PrintWords Go.Proofs.YtnopjjilpgekfaaW.PrintLast Go.Proofs.YtnopjjilpgekfaaW.PrintMore
attribute [local go_sem] max2_int min2_int max_two min_two max_three min_three max_four min_four
set_option linter.unusedVariables false
set_option linter.unusedSimpArgs false
theorem grown_below {w w1 : World} (h : w.grownBy w1 none) : Below w.heap.size w w1 := ⟨h.os, h.tape, h.output, h.size, fun k hk => h.block k hk (by simp)⟩
theorem rel_start {w w0 w1 w2 : World} {base g : Nat} {P X : Nat → Prop} {room : Int} {l : List S32} {x : S32} {v1 v7 : Value} {now : List Int} (hB : BufI w base (fun k => P k ∧ k < w.heap.size) g room l) (hXP : ∀ k, X k → ¬ P k) (hb0 : Below w.heap.size w w0) (hb1 : Below w0.heap.size w0 w1) (hb2 : Below w1.heap.size w1 w2)
  (hs : Kd.S k32 32 w1 base (fun k => X k ∨ w0.heap.size ≤ k) v7 [x]) (hk : (Kd.int .i64).R 3 w2 w1.heap.size (fun _ => True) v1 now) (hc : chkC now = 0) (hbs : base ≤ w.heap.size) (hat : ∃ b, v7.ownBlock = some b ∧ w0.heap.size ≤ b) :
  RelI w base P X g room w2 v1 v7 now [x] l (fun k => P k ∧ k < w.heap.size) (fun k => (X k ∨ w0.heap.size ≤ k) ∧ k < w1.heap.size) (fun k => w1.heap.size ≤ k) := by
 have h0 := hb0.size
 have h1 := hb1.size
 have h2 := hb2.size
 have hbw : Below w.heap.size w w2 := (hb0.trans (hb1.mono h0)).trans (hb2.mono (Nat.le_trans h0 h1))
 refine ⟨hB.below hbw, Kd.S_below (Kd.S_mono (Kd.S_bound hs) (fun k hk => ⟨hk.1, hk.2.2.1⟩)) hb2, Kd.R_lower (Kd.R_mono (Kd.R_bound hk) (fun k hk => hk.2.1)) (by omega), hc, fun k hk => ⟨hk.1, by omega⟩, fun k hk => ⟨fun hp => ?_, by omega⟩, fun k hk => ?_, fun k hk => ⟨fun hp => by omega, fun ho => by omega⟩, Kept.of_below hbw _, fun k hk => ?_⟩
 ·rcases hk.1 with h | h
  ·exact hXP k h hp.1
  ·omega
 ·rcases hk.1 with h | h
  ·exact .inl h
  ·exact .inr (.inr (by omega))
 ·obtain ⟨b, hb, hle⟩ := hat
  rw [hb] at hk
  injection hk with hk
  omega
theorem rel_rows {w wr wd we : World} {base g : Nat} {P P' X O K O1 : Nat → Prop} {room : Int} {left out : List S32} {kv v7 : Value} {now : List Int} (h : RelI w base P X g room wr kv v7 now out left P' O K) (hb : Below wr.heap.size wr wd) (hk : Kept wd we P') (hO1 : ∀ k, O1 k → P' k) :
  Kd.S k32 32 we base (fun k => (O k ∨ O1 k ∨ we.heap.size ≤ k) ∧ ¬ O1 k) v7 out :=
 Kd.S_mono (Kd.S_step (Kd.S_below h.rows hb) (fun k ho hlt => hk.block k hlt (h.OP' k ho).1)) (fun k ho => ⟨.inl ho, fun h1 => (h.OP' k ho).1 (hO1 k h1)⟩)
theorem rel_next {w wr wc wd we wf : World} {base g i : Nat} {P P' X O K O1 : Nat → Prop} {room : Int} {left out : List S32} {kv v7 vn v8 : Value} {now now' : List Int} {y : S32} (h : RelI w base P X g room wr kv v7 now out left P' O K) (hbc : Below wr.heap.size wr wc) (hbd : Below wc.heap.size wc wd) (hn : (Kd.int .i64).R 3 wd wc.heap.size (fun _ => True) vn now') (hc : chkC now' = 0)
  (hk : Kept wd we P') (hO1 : ∀ k, O1 k → P' k) (hbuf : BufI we base (fun k => P' k ∧ ¬ O1 k) g room (left.eraseIdx i)) (hs : Kd.S k32 32 wf base (fun k => O k ∨ O1 k ∨ we.heap.size ≤ k) v8 (out ++ [y])) (hg : we.grownBy wf v7.ownBlock) (hat : v8.ownBlock = v7.ownBlock ∨ ∃ b, v8.ownBlock = some b ∧ we.heap.size ≤ b) :
  RelI w base P X g room wf vn v8 now' (out ++ [y]) (left.eraseIdx i) (fun k => P' k ∧ ¬ O1 k) (fun k => (O k ∨ O1 k ∨ we.heap.size ≤ k) ∧ k < wf.heap.size) (fun k => wc.heap.size ≤ k ∧ k < wd.heap.size) := by
 have h1 := hbc.size
 have h2 := hbd.size
 have h3 := hk.size
 have h4 := hg.size
 have hrow : ∀ k, some k = v7.ownBlock → O k := fun k hk => (Kd.S_R h.rows).1 k hk.symm
 have hbs := h.buf.base_le
 have hP' : ∀ k, P' k → P k ∧ k < wr.heap.size := h.P'P
 refine ⟨hbuf.step (fun k hk hlt => hg.block k hlt (fun e => (h.OP' k (hrow k e)).1 hk.1)), Kd.S_mono (Kd.S_bound hs) (fun k hk => ⟨hk.1, hk.2.2.1⟩), ?_, hc, fun k hk => ⟨(hP' k hk.1).1, by have := (hP' k hk.1).2; omega⟩, fun k hk => ⟨fun hp => ?_, hk.2⟩, fun k hk => ?_, fun k hk => ⟨fun hp => by have := (hP' k hp.1).2; omega, fun ho => ?_⟩, ?_, fun k hk => ?_⟩
 ·refine Kd.R_lower (Kd.R_step (Kd.R_step (Kd.R_mono (Kd.R_bound hn) (ok' := fun k => wc.heap.size ≤ k ∧ k < wd.heap.size) (fun k hk => ⟨hk.2.1, hk.2.2.1⟩)) (fun k ho hlt => hk.block k hlt (fun hp => by have := (hP' k hp).2; omega))) (fun k ho hlt => hg.block k hlt (fun e => by have := (h.OP' k (hrow k e)).2; omega))) (by omega)
 ·rcases hk.1 with h5 | h5 | h5
  ·exact (h.OP' k h5).1 hp.1
  ·exact hp.2 h5
  ·have := (hP' k hp.1).2; omega
 ·rcases hk.1 with h5 | h5 | h5
  ·exact h.OX k h5
  ·exact .inr (.inl (hP' k (hO1 k h5)).1)
  ·have := h.kept.size
   exact .inr (.inr (by omega))
 ·rcases ho.1 with h5 | h5 | h5
  ·have := (h.OP' k h5).2; omega
  ·have := (hP' k (hO1 k h5)).2; omega
  ·omega
 ·have k1 : Kept w wd P := (h.kept.below hbc).below hbd
  have k2 : Kept w we P := k1.then_ hk (fun k hk => .inl (hP' k hk).1)
  exact Kept.of_grown hg k2 (fun k hk => .inr (h.fresh k hk))
 ·have h0 := h.kept.size
  rcases hat with e | ⟨b, e, hle⟩
  ·exact h.fresh k (e ▸ hk)
  ·rw [e] at hk
   injection hk with hk
   omega
theorem dec_lt {n i : Nat} (h : i < n) : n - (intOf (Value.int .i64 ((i + 1 : Nat) : Int))).toNat < n - (intOf (Value.int .i64 (i : Int))).toNat := by
 show n - ((i + 1 : Nat) : Int).toNat < n - (i : Int).toNat
 rw [Int.toNat_natCast, Int.toNat_natCast]
 omega
theorem rel_lit {w w0 : World} {base : Nat} {X : Nat → Prop} {x : S32} {v : Value} (h : (Kd.int .i64).R 3 w base (fun k => X k ∧ base ≤ k ∧ k < w.heap.size ∧ ∃ q, q ∈ 3 :: (Kd.int .i64).E ∧ ∃ cells, w.heap[k]? = some (.cells cells q (0, 0))) v x.f2) (hb : Below w.heap.size w w0) :
  ∀ (j : Nat) (y : S32), [x][j]? = some y → k32.M w0 base (fun k => j = 0 ∧ X k ∧ k < w.heap.size) y (((chL x v).drop (j * k32.sz)).take k32.sz) := by
 intro j y hy
 cases j with
 | zero =>
  injection hy with hy
  subst hy
  exact chMk (Kd.R_mono (Kd.R_below h hb) (fun k hk => ⟨rfl, hk.1, hk.2.2.1⟩))
 | succ j => cases hy
set_option maxHeartbeats 8000000 in
set_option maxRecDepth 100000 in
theorem release_calls {w : World} {base : Nat} {P X : Nat → Prop} {g : Nat} {room : Int} {l : List S32} (hB : BufI w base P g room l) (hn : l.length < 1000) (A0 : Option Addr) (c0 : Nat) (known : List Int) (hk : Kd.C (Kd.int .i64) w A0 known.length known) (hkc : known.length ≤ c0)
  (x : S32) (A3 : Option Addr) (c3 : Nat) (hx : (Kd.int .i64).R 3 w base X (.slice A3 x.f2.length c3) x.f2) (hXP : ∀ k, X k → ¬ P k) (hl64 : ∀ y ∈ l, y.f2.length ≤ 64) :
  Calls Try.prog 38 #[.pointer (some ⟨g, 0, none⟩), .slice A0 known.length c0, (.agg #[.int .i64 x.f0.f0, .int .i64 x.f0.f1, .int .i64 x.f1, (.slice A3 x.f2.length c3), .int .i64 x.f3, .int .i64 x.f4.f0, .int .i64 x.f4.f1, .int .i64 x.f5.f0, .int .i64 x.f5.f1, .int .i64 x.f6.f0, .int .i64 x.f6.f1, .string x.f7, .string x.f8])] w fun e w' => ∃ (P' O : Nat → Prop) (v' : Value), e = .returned v' ∧ BufI w' base P' g room (relF l.length (tickC known x.f0.f1).1 [x] l).2 ∧ Kd.S k32 32 w' base O v' (relF l.length (tickC known x.f0.f1).1 [x] l).1 ∧ (∀ k, P' k → P k) ∧ (∀ k, O k → ¬ P' k) ∧ (∀ k, O k → X k ∨ P k ∨ w.heap.size ≤ k) ∧ Kept w w' P := by
 have HBUF := Aside0.mk hB.bound
 have HC3 := Aside0.mk (Kd.R_reads' hx).2.2
 have HL3 := Aside0.mk (Kd.R_reads' hx).2.1
 have HXR := Aside0.mk (Kd.R_bound hx)
 have HXP := Aside0.mk hXP
 have HK := Aside0.mk hk
 have HKC := Aside0.mk hkc
 have HN := Aside0.mk hn
 have H64 := Aside0.mk hl64
 have HBASE := Aside0.mk hB.base_le
 have HTK := Aside0.mk (causal_tick_is known x 301 (by omega))
 clear hB hx hXP hk hkc hn hl64
 go_enter Try.func38, Try.ntmps38
 go_wp2_with (first | ((with_reducible refine gate_dst (N := 5) rfl ?_); refine box_event ?hg (N := 5) ?hd (cs := #[.int .i64 x.f0.f0, .int .i64 x.f0.f1, .int .i64 x.f1, (.slice A3 x.f2.length c3), .int .i64 x.f3, .int .i64 x.f4.f0, .int .i64 x.f4.f1, .int .i64 x.f5.f0, .int .i64 x.f5.f1, .int .i64 x.f6.f0, .int .i64 x.f6.f1, .string x.f7, .string x.f8]) (t := 32) ?hr ?_; (case hd => rfl); (case hg => rfl); (case hr => first | (go_simp; done) | (go_simp; rfl)); intro gb hr_ w0 hbox hb; have HXgb := Aside0.mk hbox; have HBgb := Aside0.mk hb; have HNgb := Aside0.mk (Nat.le_of_eq hr_.symm); clear hbox hb hr_))
 go_step3
 go_wp2_with (first | ((with_reducible refine gate_dst (N := 10) rfl ?_); refine load32_ev rfl (N := 10) rfl x (.slice A3 x.f2.length c3) (p := .tmp 5) rfl (ad := ⟨gb, 0, none⟩) rfl (blk_cells HXgb.out) ?_) | ((with_reducible refine gate_dst (N := 11) rfl ?_); refine Kd.S_lits k32 (w0 := w0) base 32 ?hg (N := 11) ?hd (xs := [x]) (inner := chL x (.slice A3 x.f2.length c3)) (ok := fun k => X k ∨ w0.heap.size ≤ k) (fun j k => j = 0 ∧ X k ∧ k < w.heap.size) ?hr rfl ?hrep (fun i j k hi hj => hi.1.trans hj.1.symm) (fun j k hj => .inl hj.2.1) (.inr (Nat.le_refl _)) (Below.refl _ _) (Nat.le_trans HBASE.out HBgb.out.size) (by simp) ?_; (case hd => rfl); (case hg => rfl); (case hr => first | (go_simp; done) | (go_simp; rfl)); (case hrep => exact rel_lit HXR.out HBgb.out); intro v7 w1 hs_ hb_ hg_ hat_; have HS1 := Aside0.mk hs_; have HB1 := Aside0.mk (grown_below hg_); have HX1 := Aside0.mk (blk_below HXgb.out (grown_below hg_)); have HAT := Aside0.mk hat_; clear hs_ hb_ hg_ hat_) | ((with_reducible refine gate_dst (N := 13) rfl ?_); refine load32_ev rfl (N := 13) rfl x (.slice A3 x.f2.length c3) (p := .tmp 5) rfl (ad := ⟨gb, 0, none⟩) rfl (blk_cells HX1.out) ?_) | (go_at_call 66; (with_reducible refine (causal_tick.calls 301 A0 c0 known x.f0.f0 x.f0.f1 x.f1 A3 c3 x.f2 x.f3 x.f4.f0 x.f4.f1 x.f5.f0 x.f5.f1 x.f6.f0 x.f6.f1 x.f7 x.f8 _ _ ?s1 ?s2 ?s3 ?s4 HTK.out).mono ?_); (case s1 => exact Kd.C_below (Kd.C_below HK.out HBgb.out) HB1.out); (case s2 => exact HKC.out); (case s3 => exact Kd.C_below (Kd.C_below HC3.out HBgb.out) HB1.out); (case s4 => exact HL3.out); rintro e w2 ⟨v1, rfl, hk2, hb2⟩; have HK2 := Aside0.mk hk2; have HB2 := Aside0.mk hb2; clear hk2 hb2))
 go_step3
 go_wp2_with (fail)
 have hst := rel_start HBUF.out HXP.out HBgb.out HB1.out HB2.out HS1.out HK2.out (tick_chk known x.f0.f1) HBASE.out HAT.out
 have HST := Aside0.mk hst
 clear hst
 go_loopg [1, 7] l.length (fun kq v1' v7' wr => ∃ (now : List Int) (out left : List S32) (P' O K : Nat → Prop) (ov : Value), ov = v7' ∧ Aside0 (left.length = kq) ∧ Aside0 (RelI w base P X g room wr v1' ov now out left P' O K) ∧ Aside0 (relF left.length now out left = relF l.length (tickC known x.f0.f1).1 [x] l) ∧ Aside0 (∀ y ∈ left, y ∈ l) ∧ Aside0 (out.length + left.length = l.length + 1))
 case atStart => exact ⟨_, _, _, _, _, _, _, rfl, ⟨rfl⟩, HST, ⟨rfl⟩, ⟨fun _ h => h⟩, ⟨by rw [List.length_singleton]; omega⟩⟩
 case round =>
  clear HST HK2 HB2 HAT HX1 HB1 HS1 HXgb HTK
  obtain ⟨now, out, left, P', O, K, ov, rfl, HLEN, HR, HF, HSUB, HOL⟩ := hrel
  obtain ⟨wo, rfl⟩ : ∃ wo, wo = wr := ⟨wr, rfl⟩
  obtain ⟨Ak, ck, rfl⟩ := Kd.R_slice HR.out.clk
  obtain ⟨mb, es, cc, A, ch, hO⟩ := HR.out.buf.opened
  have HO := Aside0.mk hO
  have q1 : wo.cell? ⟨g, 1, none⟩ = some (.slice A left.length ch) := (blk_cell hO.blk 1).trans rfl
  clear hO
  go_wp2_with (fail)
  go_loopw [1, 7, 23] (fun v1q v7q v23 wq => ∃ i : Nat, v1q = .slice Ak now.length ck ∧ ov = v7q ∧ v23 = .int .i64 (i : Int) ∧ Aside0 (i ≤ left.length) ∧ Aside0 (∀ m, m < i → ripeC now (rd_T32 left (m : Int)) = false) ∧ Aside0 (Below wo.heap.size wo wq)) (fun _ _ v23 _ => left.length - (intOf v23).toNat)
  case atStart => exact ⟨0, rfl, rfl, rfl, ⟨Nat.zero_le _⟩, ⟨fun m hm => absurd hm (Nat.not_lt_zero m)⟩, ⟨Below.refl _ _⟩⟩
  case round =>
   clear q1
   obtain ⟨i, rfl, rfl, rfl, HI, HNR, HBq⟩ := hrel
   by_cases hi : i < left.length
   case neg =>
    have e1 : decide (i < left.length) = false := decide_eq_false hi
    have hnone : ∀ z ∈ left, ripeC now z = false := fun z hz => by
     obtain ⟨m, hm⟩ := List.mem_iff_getElem?.1 hz
     have hml := (List.getElem?_eq_some_iff.1 hm).1
     rw [rd32_at hml] at hm
     injection hm with hm
     rw [← hm]
     exact HNR.out m (by omega)
    have HE := Aside0.mk ((relF_none (out := out) hnone).symm.trans HF.out)
    clear hnone hi
    go_wp2_with (fail)
    rw [Exit.noGoto_ret]
    go_ret
    refine ⟨P', O, ov, rfl, ?_, ?_, fun k hk => (HR.out.P'P k hk).1, fun k hk => (HR.out.OP' k hk).1, HR.out.OX, HR.out.kept.below HBq.out⟩
    ·rw [← HE.out]
     exact HR.out.buf.below HBq.out
    ·rw [← HE.out]
     exact Kd.S_below HR.out.rows HBq.out
   have HI' := Aside0.mk hi
   obtain ⟨gr, cap, hform, hbgr, hgrw, cells, hgr⟩ := Kd.S_form HO.out.row (by omega)
   injection hform with hA _ hch
   subst hA; subst hch
   obtain ⟨c', hcl, hM, hcc, hfr⟩ := Kd.R_elem (Kd.S_R HO.out.row) z32 (i : Int) (by omega) (by omega)
   rw [Int.toNat_natCast] at hcc
   obtain ⟨v, rfl, hv⟩ := chM hM
   have hv2 : (Kd.int .i64).R 3 wo base _ v (rd_T32 left (i : Int)).f2 := hv
   have hcc2 : ∀ j u, (chL (rd_T32 left (i : Int)) v)[j]? = some u → wo.cell? ⟨gr, i * 13 + j, none⟩ = some u := hcc
   have hy : rd_T32 left (i : Int) ∈ left := List.mem_of_getElem? (rd32_at hi)
   obtain ⟨y, hyy⟩ : ∃ y, rd_T32 left (i : Int) = y := ⟨_, rfl⟩
   rw [hyy] at hv2 hcc2 hy
   clear hv hcc hM hcl hfr
   obtain ⟨Ae, ce, rfl, hle, hCe⟩ := Kd.R_reads hv2
   have HY := Aside0.mk hyy
   have HCC := Aside0.mk hcc2
   have HCE := Aside0.mk (Kd.C_below hCe HBq.out)
   have HLE := Aside0.mk hle
   have HRD := Aside0.mk (ready_is (known := now) (x := y) HR.out.chk (H64.out y (HSUB.out y hy)) 71 (by decide))
   have HGRW := Aside0.mk hgrw
   have b1 : (0 ≤ (i : Int)) = True := eq_true (by omega)
   have b2 : ((i : Int) < (left.length : Int)) = True := eq_true (by omega)
   have b3 : (i < left.length) = True := eq_true hi
   have e1 : decide ((i : Int) < (left.length : Int)) = true := decide_eq_true (by omega)
   clear hyy hcc2 hCe hle hgrw hgr hbgr hv2 hy hi
   by_cases hrp : ripeC now y = true
   ·rw [hrp] at HRD
    have HRP := Aside0.mk hrp
    have HTK2 := Aside0.mk (causal_tick_is now y 301 (by omega))
    clear hrp
    go_wp2_with (first | ((with_reducible refine gate_dst (N := 27) rfl ?_); refine load32_ev rfl (N := 27) rfl y (.slice Ae y.f2.length ce) (p := .tmp 26) rfl (ad := ⟨gr, i * 13, none⟩) rfl (fun j u hj => by rw [add_at]; exact (HBq.out.cell (p := ⟨gr, i * 13 + j, none⟩) HGRW.out).trans (HCC.out j u hj)) ?_) | ((with_reducible refine gate_dst (N := 9) rfl ?_); refine box_event ?hg (N := 9) ?hd (cs := #[.int .i64 0, .int .i64 0, .int .i64 0, .slice none 0 0, .int .i64 0, .int .i64 0, .int .i64 0, .int .i64 0, .int .i64 0, .int .i64 0, .int .i64 0, .string ⟨#[]⟩, .string ⟨#[]⟩]) (t := 32) ?hr ?_; (case hd => rfl); (case hg => rfl); (case hr => first | (go_simp; done) | (go_simp; rfl)); intro gc hr_ wa hbox hb; have HXgc := Aside0.mk hbox; have HBgc := Aside0.mk hb; have HNgc := Aside0.mk (Nat.le_of_eq hr_.symm); clear hbox hb hr_) | ((with_reducible refine gate_store (t := 32) (p := 9) (v := .tmp 27) rfl ?_); refine store32_ev rfl rfl y (.slice Ae y.f2.length ce) (p := .tmp 9) (q := .tmp 27) rfl (g := gc) rfl rfl rfl HXgc.out rfl ?_; intro wb hb_ hg_; have HSgc := Aside0.mk hb_; have HGgc := Aside0.mk hg_; clear hb_ hg_; have HBqb := Aside0.mk (HBgc.out.grown HGgc.out HBgc.out.size (fun k hk => by injection hk with hk; rw [← hk]; exact HNgc.out)); have HBb := Aside0.mk (HBq.out.trans (HBqb.out.mono HBq.out.size))) | ((with_reducible refine gate_dst (N := 29) rfl ?_); refine load32_ev rfl (N := 29) rfl y (.slice Ae y.f2.length ce) (p := .tmp 9) rfl (ad := ⟨gc, 0, none⟩) rfl (blk_cells HSgc.out) ?_) | (go_at_call 37; (with_reducible refine (causal_ready.calls 71 Ak ck now y.f0.f0 y.f0.f1 y.f1 Ae ce y.f2 y.f3 y.f4.f0 y.f4.f1 y.f5.f0 y.f5.f1 y.f6.f0 y.f6.f1 y.f7 y.f8 _ _ ?s1 ?s2 ?s3 ?s4 HRD.out).mono ?_); (case s1 => exact Kd.C_below (Kd.R_reads' HR.out.clk).2.2 HBb.out); (case s2 => exact (Kd.R_reads' HR.out.clk).2.1); (case s3 => exact Kd.C_below HCE.out HBqb.out); (case s4 => exact HLE.out); rintro e wc ⟨rfl, hbc⟩; have HBC := Aside0.mk hbc; clear hbc) | ((with_reducible refine gate_dst (N := 32) rfl ?_); refine load32_ev rfl (N := 32) rfl y (.slice Ae y.f2.length ce) (p := .tmp 9) rfl (ad := ⟨gc, 0, none⟩) rfl (blk_cells (blk_below HSgc.out HBC.out)) ?_) | (go_at_call 66; (with_reducible refine (causal_tick.calls 301 Ak ck now y.f0.f0 y.f0.f1 y.f1 Ae ce y.f2 y.f3 y.f4.f0 y.f4.f1 y.f5.f0 y.f5.f1 y.f6.f0 y.f6.f1 y.f7 y.f8 _ _ ?s1 ?s2 ?s3 ?s4 HTK2.out).mono ?_); (case s1 => exact Kd.C_below (Kd.C_below (Kd.R_reads' HR.out.clk).2.2 HBb.out) HBC.out); (case s2 => exact (Kd.R_reads' HR.out.clk).2.1); (case s3 => exact Kd.C_below (Kd.C_below HCE.out HBqb.out) HBC.out); (case s4 => exact HLE.out); rintro e wd ⟨vn, rfl, hn2, hbd⟩; have HN2 := Aside0.mk hn2; have HBD := Aside0.mk hbd; have HOC := Aside0.mk (HBb.out.trans (HBC.out.mono HBb.out.size)); have HOD := Aside0.mk (HOC.out.trans (HBD.out.mono HOC.out.size)); clear hn2 hbd) | (go_at_call 56; (with_reducible refine (take_calls (HR.out.buf.below HOD.out) i HI'.out ?s1).mono ?_); (case s1 => have h1_ := HN.out; have h2_ := HOL.out; omega); rw [HY.out]; rintro e we ⟨O1, v1e, rfl, hv1, hO1P, hbuf, hkp⟩; have HV1 := Aside0.mk hv1; have HO1P := Aside0.mk hO1P; have HBUF1 := Aside0.mk hbuf; have HKP := Aside0.mk hkp; have HROWS := Aside0.mk (rel_rows HR.out HOD.out HKP.out HO1P.out); clear hv1 hO1P hbuf hkp) | ((with_reducible refine gate_builtin (b := .append) (xs := #[.tmp 34, .tmp 38]) rfl ?_); at_builtin; refine Kd.S_append k32 (w0 := we) base rfl (.tmp 34) (.tmp 38) 22 32 (.agg #[.int .i64 0, .int .i64 0, .int .i64 0, .slice none 0 0, .int .i64 0, .int .i64 0, .int .i64 0, .int .i64 0, .int .i64 0, .int .i64 0, .int .i64 0, .string ⟨#[]⟩, .string ⟨#[]⟩]) 136 rfl Try.underlying22 info32 rfl (by decide) (by omega) ov out y (chL y v1e) (fun k => O k ∨ O1 k ∨ we.heap.size ≤ k) O1 rfl rfl (chMk HV1.out) ?hokp (fun k hk => .inr (.inr hk)) HROWS.out (Below.refl _ _) HBUF1.out.base_le ?hl ?_; (case hokp => exact fun k hk => ⟨.inr (.inl hk), fun e => (HR.out.OP' k ((Kd.S_R HR.out.rows).1 k e.symm)).1 (HO1P.out k hk)⟩); (case hl => have h1_ := HN.out; have h2_ := HOL.out; omega); intro v8 wf hs8 hb8 hg8 hat8; have HS8 := Aside0.mk hs8; have HG8 := Aside0.mk hg8; have HAT8 := Aside0.mk hat8; clear hs8 hb8 hg8 hat8))
    have hnx := relF_next (now := now) (out := out) HI'.out (by rw [HY.out]; exact HRP.out) (fun m hm => HNR.out m hm)
    rw [HY.out] at hnx
    have HNX := Aside0.mk (hnx.symm.trans HF.out)
    clear hnx
    go_roundg (left.length - 1)
    case measure => have h1_ := HLEN.out; have h2_ := HI'.out; omega
    case rel =>
     exact ⟨_, _, _, _, _, _, _, rfl, ⟨List.length_eraseIdx_of_lt HI'.out⟩, ⟨rel_next HR.out HOC.out HBD.out HN2.out (tick_chk _ _) HKP.out HO1P.out HBUF1.out HS8.out HG8.out HAT8.out⟩, HNX, ⟨fun z hz => HSUB.out z (List.mem_of_mem_eraseIdx hz)⟩, ⟨by rw [List.length_append, List.length_singleton, List.length_eraseIdx_of_lt HI'.out]; have h1_ := HI'.out; have h2_ := HOL.out; omega⟩⟩
   ·have hrf : ripeC now y = false := by simpa using hrp
    rw [hrf] at HRD
    have HRP := Aside0.mk hrf
    clear hrp hrf
    go_wp2_with (first | ((with_reducible refine gate_dst (N := 27) rfl ?_); refine load32_ev rfl (N := 27) rfl y (.slice Ae y.f2.length ce) (p := .tmp 26) rfl (ad := ⟨gr, i * 13, none⟩) rfl (fun j u hj => by rw [add_at]; exact (HBq.out.cell (p := ⟨gr, i * 13 + j, none⟩) HGRW.out).trans (HCC.out j u hj)) ?_) | ((with_reducible refine gate_dst (N := 9) rfl ?_); refine box_event ?hg (N := 9) ?hd (cs := #[.int .i64 0, .int .i64 0, .int .i64 0, .slice none 0 0, .int .i64 0, .int .i64 0, .int .i64 0, .int .i64 0, .int .i64 0, .int .i64 0, .int .i64 0, .string ⟨#[]⟩, .string ⟨#[]⟩]) (t := 32) ?hr ?_; (case hd => rfl); (case hg => rfl); (case hr => first | (go_simp; done) | (go_simp; rfl)); intro gc hr_ wa hbox hb; have HXgc := Aside0.mk hbox; have HBgc := Aside0.mk hb; have HNgc := Aside0.mk (Nat.le_of_eq hr_.symm); clear hbox hb hr_) | ((with_reducible refine gate_store (t := 32) (p := 9) (v := .tmp 27) rfl ?_); refine store32_ev rfl rfl y (.slice Ae y.f2.length ce) (p := .tmp 9) (q := .tmp 27) rfl (g := gc) rfl rfl rfl HXgc.out rfl ?_; intro wb hb_ hg_; have HSgc := Aside0.mk hb_; have HGgc := Aside0.mk hg_; clear hb_ hg_; have HBqb := Aside0.mk (HBgc.out.grown HGgc.out HBgc.out.size (fun k hk => by injection hk with hk; rw [← hk]; exact HNgc.out)); have HBb := Aside0.mk (HBq.out.trans (HBqb.out.mono HBq.out.size))) | ((with_reducible refine gate_dst (N := 29) rfl ?_); refine load32_ev rfl (N := 29) rfl y (.slice Ae y.f2.length ce) (p := .tmp 9) rfl (ad := ⟨gc, 0, none⟩) rfl (blk_cells HSgc.out) ?_) | (go_at_call 37; (with_reducible refine (causal_ready.calls 71 Ak ck now y.f0.f0 y.f0.f1 y.f1 Ae ce y.f2 y.f3 y.f4.f0 y.f4.f1 y.f5.f0 y.f5.f1 y.f6.f0 y.f6.f1 y.f7 y.f8 _ _ ?s1 ?s2 ?s3 ?s4 HRD.out).mono ?_); (case s1 => exact Kd.C_below (Kd.R_reads' HR.out.clk).2.2 HBb.out); (case s2 => exact (Kd.R_reads' HR.out.clk).2.1); (case s3 => exact Kd.C_below HCE.out HBqb.out); (case s4 => exact HLE.out); rintro e wc ⟨rfl, hbc⟩; have HBC := Aside0.mk hbc; clear hbc))
    have hiw : i < 100000 := by have h1_ := HI'.out; have h2_ := HN.out; have h3_ := HOL.out; omega
    rw [Go.Proofs.Ytnopjjilpgekfaa.PCa.w1 hiw]
    refine ⟨⟨i + 1, rfl, rfl, rfl, ⟨HI'.out⟩, ⟨fun m hm => ?_⟩, ⟨HBb.out.trans (HBC.out.mono HBb.out.size)⟩⟩, dec_lt HI'.out⟩
    rcases Nat.lt_or_eq_of_le (Nat.le_of_lt_succ hm) with h1_ | h1_
    ·exact HNR.out m h1_
    ·rw [h1_, HY.out]
     exact HRP.out
def change_Copy.f (a0_0 : Int) (a0_1 : Int) (a0_2 : Int) (l0_3 : List Int) (a0_4 : Int) (a0_5 : Int) (a0_6 : Int) (a0_7 : Int) (a0_8 : Int) (a0_9 : Int) (a0_10 : Int) (a0_11 : ByteArray) (a0_12 : ByteArray) : Option (Int × Int × Int × List Int × Int × Int × Int × Int × Int × Int × Int × ByteArray × ByteArray) := (some (([] : List Int) : List Int)).bind fun y387 => (if y387.length + l0_3.length < 17592186044416 then (some (a0_0, a0_1, a0_2, (y387 ++ l0_3), a0_4, a0_5, a0_6, a0_7, a0_8, a0_9, a0_10, a0_11, a0_12)) else (none))
set_option maxHeartbeats 8000000 in
set_option maxRecDepth 100000 in
theorem change_Copy.calls (a0_0 : Int) (a0_1 : Int) (a0_2 : Int) (A0_3 : Option Addr) (c0_3 : Nat) (l0_3 : List Int) (a0_4 : Int) (a0_5 : Int) (a0_6 : Int) (a0_7 : Int) (a0_8 : Int) (a0_9 : Int) (a0_10 : Int) (a0_11 : ByteArray) (a0_12 : ByteArray) (r1 : Int) (r2 : Int) (r3 : Int) (r4 : List Int) (r5 : Int) (r6 : Int) (r7 : Int) (r8 : Int) (r9 : Int) (r10 : Int) (r11 : Int) (r12 : ByteArray) (r13 : ByteArray) (w : World) (hr0_3 : Kd.C (Kd.int .i64) w A0_3 l0_3.length l0_3) (hc0_3 : l0_3.length ≤ c0_3) (h : change_Copy.f a0_0 a0_1 a0_2 l0_3 a0_4 a0_5 a0_6 a0_7 a0_8 a0_9 a0_10 a0_11 a0_12 = some (r1, r2, r3, r4, r5, r6, r7, r8, r9, r10, r11, r12, r13)) :
  Calls Try.prog 39 #[.agg #[.int .i64 a0_0, .int .i64 a0_1, .int .i64 a0_2, .slice A0_3 l0_3.length c0_3, .int .i64 a0_4, .int .i64 a0_5, .int .i64 a0_6, .int .i64 a0_7, .int .i64 a0_8, .int .i64 a0_9, .int .i64 a0_10, .string a0_11, .string a0_12]] w fun e w' => ∃ v3_ : Value, e = .returned (.agg #[.int .i64 r1, .int .i64 r2, .int .i64 r3, v3_, .int .i64 r5, .int .i64 r6, .int .i64 r7, .int .i64 r8, .int .i64 r9, .int .i64 r10, .int .i64 r11, .string r12, .string r13]) ∧ Kd.R (Kd.int .i64) 3 w' w.heap.size (fun _ => True) v3_ r4 ∧ Below w.heap.size w w' := by
 have hu32 := Try.underlying32
 have HR0_3 := Aside0.mk hr0_3
 have HC0_3 := Aside0.mk hc0_3
 clear hr0_3 hc0_3
 have HB := Aside0.mk (Below.refl w.heap.size w)
 have H : ((some (([] : List Int) : List Int)).bind fun y387 => (if y387.length + l0_3.length < 17592186044416 then (some (a0_0, a0_1, a0_2, (y387 ++ l0_3), a0_4, a0_5, a0_6, a0_7, a0_8, a0_9, a0_10, a0_11, a0_12)) else (none))) = some (r1, r2, r3, r4, r5, r6, r7, r8, r9, r10, r11, r12, r13) := h
 clear h
 obtain ⟨y387, hy387⟩ : ∃ y_ : List Int, y_ = (([] : List Int)) := ⟨_, rfl⟩
 replace H : (if y387.length + l0_3.length < 17592186044416 then (some (a0_0, a0_1, a0_2, (y387 ++ l0_3), a0_4, a0_5, a0_6, a0_7, a0_8, a0_9, a0_10, a0_11, a0_12)) else (none)) = some (r1, r2, r3, r4, r5, r6, r7, r8, r9, r10, r11, r12, r13) := by first | (rw [hy387]; with_reducible exact H) | (have H2_ := (Option.bind_some _ _).symm.trans H; rw [hy387]; with_reducible exact H2_) | (have H2_ := (Option.bind_some _ _).symm.trans H; with_reducible exact H2_) | with_reducible exact H | (rw [hy387]; exact H) | exact H
 have Ny387 := Aside0.mk hy387
 clear hy387
 by_cases c2 : y387.length + l0_3.length < 17592186044416
 ·rw [if_pos c2] at H
  have LMc2 := Aside0.mk c2
  clear c2
  obtain ⟨y390, hy390⟩ : ∃ y_ : List Int, y_ = (y387 ++ l0_3) := ⟨_, rfl⟩
  replace H : (some (a0_0, a0_1, a0_2, y390, a0_4, a0_5, a0_6, a0_7, a0_8, a0_9, a0_10, a0_11, a0_12)) = some (r1, r2, r3, r4, r5, r6, r7, r8, r9, r10, r11, r12, r13) := by first | (rw [hy390]; with_reducible exact H) | (have H2_ := (Option.bind_some _ _).symm.trans H; rw [hy390]; with_reducible exact H2_) | (have H2_ := (Option.bind_some _ _).symm.trans H; with_reducible exact H2_) | with_reducible exact H | (rw [hy390]; exact H) | exact H
  have Ny390 := Aside0.mk hy390
  clear hy390
  simp only [Option.some.injEq, Prod.mk.injEq] at H
  obtain ⟨rfl, rfl, rfl, rfl, rfl, rfl, rfl, rfl, rfl, rfl, rfl, rfl, rfl⟩ := H
  go_enter Try.func39, Try.ntmps39
  go_wp2_with (first | ((with_reducible refine gate_dst (N := 1) rfl ?_); refine box_event ?hg (N := 1) ?hd (cs := #[.int .i64 a0_0, .int .i64 a0_1, .int .i64 a0_2, .slice A0_3 l0_3.length c0_3, .int .i64 a0_4, .int .i64 a0_5, .int .i64 a0_6, .int .i64 a0_7, .int .i64 a0_8, .int .i64 a0_9, .int .i64 a0_10, .string a0_11, .string a0_12]) (t := 32) ?hr ?_; (case hd => rfl); (case hg => rfl); (case hr => first | (go_simp; done) | (go_simp; rfl)); intro gb385 hg w3 hbox hb; have n0_ := Aside0.mk (below_step (by repeat (first | (with_reducible first | exact HB.out | apply below_alloc | apply pw_below_drewN | apply below_drew1) | exact HB.out)) hb); have n1_ := Aside0.mk (hbox); have n2_ := Aside0.mk ((by rw [hg]; exact (below_size (by repeat (first | (with_reducible first | exact HB.out | apply below_alloc | apply pw_below_drewN | apply below_drew1) | exact HB.out))) : w.heap.size ≤ gb385)); have n3_ := Aside0.mk ((by rw [hg]; exact (below_size (by repeat (first | (with_reducible first | exact HB.out | apply below_alloc | apply pw_below_drewN | apply below_drew1) | exact HB.out))) : w.heap.size ≤ gb385)); clear HB; have HB := n0_; have BK385 := n1_; have GW385 := n2_; have GE385 := n3_; clear n0_ n1_ n2_ n3_; clear hb hbox hg) | ((with_reducible refine gate_dst (N := 2) rfl ?_); refine box_event ?hg (N := 2) ?hd (cs := #[.int .i64 0, .int .i64 0, .int .i64 0, .slice none 0 0, .int .i64 0, .int .i64 0, .int .i64 0, .int .i64 0, .int .i64 0, .int .i64 0, .int .i64 0, .string (⟨#[]⟩ : ByteArray), .string (⟨#[]⟩ : ByteArray)]) (t := 32) ?hr ?_; (case hd => rfl); (case hg => rfl); (case hr => first | (go_simp; done) | (go_simp; rfl)); intro gb386 hg w4 hbox hb; have n0_ := Aside0.mk (blk_below (g := gb385) (o := .cells #[.int .i64 a0_0, .int .i64 a0_1, .int .i64 a0_2, .slice A0_3 l0_3.length c0_3, .int .i64 a0_4, .int .i64 a0_5, .int .i64 a0_6, .int .i64 a0_7, .int .i64 a0_8, .int .i64 a0_9, .int .i64 a0_10, .string a0_11, .string a0_12] 32 (0, 0)) (by (with_reducible repeat (first | refine blk_drewN ?_ _ | refine blk_drew ?_ | refine blk_alloc ?_ _)); exact BK385.out) hb); have n1_ := Aside0.mk (below_step (by repeat (first | (with_reducible first | exact HB.out | apply below_alloc | apply pw_below_drewN | apply below_drew1 | refine below_set ?_ GE385.out) | exact HB.out)) hb); have n2_ := Aside0.mk (hbox); have n3_ := Aside0.mk ((by rw [hg]; exact (below_size (by repeat (first | (with_reducible first | exact HB.out | apply below_alloc | apply pw_below_drewN | apply below_drew1 | refine below_set ?_ GE385.out) | exact HB.out))) : w.heap.size ≤ gb386)); have n4_ := Aside0.mk ((by rw [hg]; exact (below_size (by repeat (first | (with_reducible first | exact HB.out | apply below_alloc | apply pw_below_drewN | apply below_drew1 | refine below_set ?_ GE385.out) | exact HB.out))) : w.heap.size ≤ gb386)); have n5_ := Aside0.mk ((by rw [hg]; exact Nat.ne_of_lt (blk_lt (g := gb385) (o := .cells #[.int .i64 a0_0, .int .i64 a0_1, .int .i64 a0_2, .slice A0_3 l0_3.length c0_3, .int .i64 a0_4, .int .i64 a0_5, .int .i64 a0_6, .int .i64 a0_7, .int .i64 a0_8, .int .i64 a0_9, .int .i64 a0_10, .string a0_11, .string a0_12] 32 (0, 0)) (by (with_reducible repeat (first | refine blk_drewN ?_ _ | refine blk_drew ?_ | refine blk_alloc ?_ _)); exact BK385.out)) : gb385 ≠ gb386)); have n6_ := Aside0.mk ((by rw [hg]; exact Nat.ne_of_gt (blk_lt (g := gb385) (o := .cells #[.int .i64 a0_0, .int .i64 a0_1, .int .i64 a0_2, .slice A0_3 l0_3.length c0_3, .int .i64 a0_4, .int .i64 a0_5, .int .i64 a0_6, .int .i64 a0_7, .int .i64 a0_8, .int .i64 a0_9, .int .i64 a0_10, .string a0_11, .string a0_12] 32 (0, 0)) (by (with_reducible repeat (first | refine blk_drewN ?_ _ | refine blk_drew ?_ | refine blk_alloc ?_ _)); exact BK385.out)) : gb386 ≠ gb385)); clear BK385; clear HB; have BK385 := n0_; have HB := n1_; have BK386 := n2_; have GW386 := n3_; have GE386 := n4_; have NB385_386 := n5_; have NB386_385 := n6_; clear n0_ n1_ n2_ n3_ n4_ n5_ n6_; clear hb hbox hg) | ((with_reducible refine gate_dst (N := 3) rfl ?_); refine Kd.R_lit (Kd.int .i64) _ 3 ?hg (N := 3) ?hd (xs := ([] : List Int)) (inner := []) (ok := fun _ => True) (okp := fun _ => True) ?hr ?hp (fun _ hk => hk) trivial (Below.refl _ _) (Nat.le_refl _) (by simp) ?_; (case hd => rfl); (case hg => rfl); (case hr => first | (go_simp; done) | (go_simp; rfl)); (case hp => exact (Reps.none _ _)); intro v388 w5 ho6 hb hg_ hnew_; clear hg_ hnew_; (first | rw [← Ny387.out] at ho6 | (simp only [Int.reduceToNat] at ho6; rw [← Ny387.out] at ho6)); have n0_ := Aside0.mk (Kd.R_lower ho6 (below_size (by repeat (first | (with_reducible first | exact HB.out | apply below_alloc | apply pw_below_drewN | apply below_drew1 | refine below_set ?_ GE385.out | refine below_set ?_ GE386.out) | exact HB.out)))); have n1_ := Aside0.mk (blk_below (g := gb385) (o := .cells #[.int .i64 a0_0, .int .i64 a0_1, .int .i64 a0_2, .slice A0_3 l0_3.length c0_3, .int .i64 a0_4, .int .i64 a0_5, .int .i64 a0_6, .int .i64 a0_7, .int .i64 a0_8, .int .i64 a0_9, .int .i64 a0_10, .string a0_11, .string a0_12] 32 (0, 0)) (by (with_reducible repeat (first | refine blk_drewN ?_ _ | refine blk_drew ?_ | refine blk_alloc ?_ _)); exact BK385.out) hb); have n2_ := Aside0.mk (blk_below (g := gb386) (o := .cells #[.int .i64 0, .int .i64 0, .int .i64 0, .slice none 0 0, .int .i64 0, .int .i64 0, .int .i64 0, .int .i64 0, .int .i64 0, .int .i64 0, .int .i64 0, .string (⟨#[]⟩ : ByteArray), .string (⟨#[]⟩ : ByteArray)] 32 (0, 0)) (by (with_reducible repeat (first | refine blk_drewN ?_ _ | refine blk_drew ?_ | refine blk_alloc ?_ _)); exact BK386.out) hb); have n3_ := Aside0.mk (below_step (by repeat (first | (with_reducible first | exact HB.out | apply below_alloc | apply pw_below_drewN | apply below_drew1 | refine below_set ?_ GE385.out | refine below_set ?_ GE386.out) | exact HB.out)) hb); clear BK385; clear BK386; clear HB; have HO389 := n0_; have BK385 := n1_; have BK386 := n2_; have HB := n3_; clear n0_ n1_ n2_ n3_; clear hb ho6; have hnb7 := NB385_386.out; have hnc7 := NB386_385.out; obtain ⟨hcz8_0, hcz8_1, hcz8_2, hcz8_3, hcz8_4, hcz8_5, hcz8_6, hcz8_7, hcz8_8, hcz8_9, hcz8_10, hcz8_11, hcz8_12⟩ := cells13 BK385.out; obtain ⟨hfz8_0, hfz8_1, hfz8_2, hfz8_3, hfz8_4, hfz8_5, hfz8_6, hfz8_7, hfz8_8, hfz8_9, hfz8_10, hfz8_11, hfz8_12⟩ := froz13 BK385.out) | ((with_reducible refine gate_builtin (b := .append) (xs := #[.tmp 3, .tmp 5]) rfl ?_); at_builtin; refine Kd.R_append_rows (Kd.int .i64) (w0 := w) w.heap.size rfl (.tmp 3) (.tmp 5) 23 3 (.int .i64 0) 8 rfl Try.underlying23 info3 rfl (by decide) (by omega) v388 y387 l0_3 _ _ _ (fun _ => True) (fun _ => False) rfl rfl ?aO ?aR (fun _ _ h => h) (fun _ h => h.elim) ?aF ?aB ?aS ?aL ?_; (case aR => repeat (first | exact (Kd.C_below HR0_3.out HB.out) | (with_reducible refine Kd.C_alloc ?_ _) | (with_reducible refine Kd.C_drewN ?_ _) | (with_reducible refine Kd.C_drew ?_))); (case aB => exact (by repeat (first | (with_reducible first | exact HB.out | apply below_alloc | apply pw_below_drewN | apply below_drew1 | refine below_set ?_ GE385.out | refine below_set ?_ GE386.out) | exact HB.out))); (case aF => exact (fun _ _ => trivial)); (case aO => exact (by (with_reducible repeat (first | apply Kd.R_alloc | apply Kd.R_drewN | apply Kd.R_drew)); exact HO389.out)); (case aS => exact (below_size (by repeat (first | (with_reducible first | exact HB.out | apply below_alloc | apply pw_below_drewN | apply below_drew1 | refine below_set ?_ GE385.out | refine below_set ?_ GE386.out) | exact HB.out)))); (case aL => have := LMc2.out; omega); intro v391 w9 ho hb hg hat; rw [← Ny390.out] at ho; have n0_ := Aside0.mk (blk_grown (g := gb385) (o := .cells #[.int .i64 a0_0, .int .i64 a0_1, .int .i64 a0_2, .slice A0_3 l0_3.length c0_3, .int .i64 a0_4, .int .i64 a0_5, .int .i64 a0_6, .int .i64 a0_7, .int .i64 a0_8, .int .i64 a0_9, .int .i64 a0_10, .string a0_11, .string a0_12] 32 (0, 0)) (by (with_reducible repeat (first | refine blk_drewN ?_ _ | refine blk_drew ?_ | refine blk_alloc ?_ _)); exact BK385.out) hg (Kd.R_ne HO389.out BK385.out (by decide))); have n1_ := Aside0.mk (blk_grown (g := gb386) (o := .cells #[.int .i64 0, .int .i64 0, .int .i64 0, .slice none 0 0, .int .i64 0, .int .i64 0, .int .i64 0, .int .i64 0, .int .i64 0, .int .i64 0, .int .i64 0, .string (⟨#[]⟩ : ByteArray), .string (⟨#[]⟩ : ByteArray)] 32 (0, 0)) (by (with_reducible repeat (first | refine blk_drewN ?_ _ | refine blk_drew ?_ | refine blk_alloc ?_ _)); exact BK386.out) hg (Kd.R_ne HO389.out BK386.out (by decide))); have n2_ := Aside0.mk (hb); have n3_ := Aside0.mk (ho); clear BK385; clear BK386; clear HB; clear HO389; have BK385 := n0_; have BK386 := n1_; have HB := n2_; have HO392 := n3_; clear n0_ n1_ n2_ n3_; clear ho hb hg hat; obtain ⟨Ao10, co10, eo10⟩ := Kd.R_slice HO392.out; subst eo10; obtain ⟨hcz11_0, hcz11_1, hcz11_2, hcz11_3, hcz11_4, hcz11_5, hcz11_6, hcz11_7, hcz11_8, hcz11_9, hcz11_10, hcz11_11, hcz11_12⟩ := cells13 BK385.out; obtain ⟨hfz11_0, hfz11_1, hfz11_2, hfz11_3, hfz11_4, hfz11_5, hfz11_6, hfz11_7, hfz11_8, hfz11_9, hfz11_10, hfz11_11, hfz11_12⟩ := froz13 BK385.out; obtain ⟨hcz12_0, hcz12_1, hcz12_2, hcz12_3, hcz12_4, hcz12_5, hcz12_6, hcz12_7, hcz12_8, hcz12_9, hcz12_10, hcz12_11, hcz12_12⟩ := cells13 BK386.out; obtain ⟨hfz12_0, hfz12_1, hfz12_2, hfz12_3, hfz12_4, hfz12_5, hfz12_6, hfz12_7, hfz12_8, hfz12_9, hfz12_10, hfz12_11, hfz12_12⟩ := froz13 BK386.out))
  refine bodyPost_ret (results_cell_row rfl _ _ gb386 32 #[.int .i64 a0_0, .int .i64 a0_1, .int .i64 a0_2, .slice Ao10 y390.length co10, .int .i64 a0_4, .int .i64 a0_5, .int .i64 a0_6, .int .i64 a0_7, .int .i64 a0_8, .int .i64 a0_9, .int .i64 a0_10, .string a0_11, .string a0_12] (0, 0) _ rfl (by (with_reducible repeat (first | refine blk_drewN ?_ _ | refine blk_drew ?_ | refine blk_alloc ?_ _)); refine blk_put (cs := #[.int .i64 a0_0, .int .i64 a0_1, .int .i64 a0_2, .slice Ao10 y390.length co10, .int .i64 a0_4, .int .i64 a0_5, .int .i64 a0_6, .int .i64 a0_7, .int .i64 a0_8, .int .i64 a0_9, .int .i64 a0_10, .string a0_11, .string (⟨#[]⟩ : ByteArray)]) ?_ 12 _ rfl; (with_reducible repeat (first | refine blk_drewN ?_ _ | refine blk_drew ?_ | refine blk_alloc ?_ _)); refine blk_put (cs := #[.int .i64 a0_0, .int .i64 a0_1, .int .i64 a0_2, .slice Ao10 y390.length co10, .int .i64 a0_4, .int .i64 a0_5, .int .i64 a0_6, .int .i64 a0_7, .int .i64 a0_8, .int .i64 a0_9, .int .i64 a0_10, .string (⟨#[]⟩ : ByteArray), .string (⟨#[]⟩ : ByteArray)]) ?_ 11 _ rfl; (with_reducible repeat (first | refine blk_drewN ?_ _ | refine blk_drew ?_ | refine blk_alloc ?_ _)); refine blk_put (cs := #[.int .i64 a0_0, .int .i64 a0_1, .int .i64 a0_2, .slice Ao10 y390.length co10, .int .i64 a0_4, .int .i64 a0_5, .int .i64 a0_6, .int .i64 a0_7, .int .i64 a0_8, .int .i64 a0_9, .int .i64 0, .string (⟨#[]⟩ : ByteArray), .string (⟨#[]⟩ : ByteArray)]) ?_ 10 _ rfl; (with_reducible repeat (first | refine blk_drewN ?_ _ | refine blk_drew ?_ | refine blk_alloc ?_ _)); refine blk_put (cs := #[.int .i64 a0_0, .int .i64 a0_1, .int .i64 a0_2, .slice Ao10 y390.length co10, .int .i64 a0_4, .int .i64 a0_5, .int .i64 a0_6, .int .i64 a0_7, .int .i64 a0_8, .int .i64 0, .int .i64 0, .string (⟨#[]⟩ : ByteArray), .string (⟨#[]⟩ : ByteArray)]) ?_ 9 _ rfl; (with_reducible repeat (first | refine blk_drewN ?_ _ | refine blk_drew ?_ | refine blk_alloc ?_ _)); refine blk_put (cs := #[.int .i64 a0_0, .int .i64 a0_1, .int .i64 a0_2, .slice Ao10 y390.length co10, .int .i64 a0_4, .int .i64 a0_5, .int .i64 a0_6, .int .i64 a0_7, .int .i64 0, .int .i64 0, .int .i64 0, .string (⟨#[]⟩ : ByteArray), .string (⟨#[]⟩ : ByteArray)]) ?_ 8 _ rfl; (with_reducible repeat (first | refine blk_drewN ?_ _ | refine blk_drew ?_ | refine blk_alloc ?_ _)); refine blk_put (cs := #[.int .i64 a0_0, .int .i64 a0_1, .int .i64 a0_2, .slice Ao10 y390.length co10, .int .i64 a0_4, .int .i64 a0_5, .int .i64 a0_6, .int .i64 0, .int .i64 0, .int .i64 0, .int .i64 0, .string (⟨#[]⟩ : ByteArray), .string (⟨#[]⟩ : ByteArray)]) ?_ 7 _ rfl; (with_reducible repeat (first | refine blk_drewN ?_ _ | refine blk_drew ?_ | refine blk_alloc ?_ _)); refine blk_put (cs := #[.int .i64 a0_0, .int .i64 a0_1, .int .i64 a0_2, .slice Ao10 y390.length co10, .int .i64 a0_4, .int .i64 a0_5, .int .i64 0, .int .i64 0, .int .i64 0, .int .i64 0, .int .i64 0, .string (⟨#[]⟩ : ByteArray), .string (⟨#[]⟩ : ByteArray)]) ?_ 6 _ rfl; (with_reducible repeat (first | refine blk_drewN ?_ _ | refine blk_drew ?_ | refine blk_alloc ?_ _)); refine blk_put (cs := #[.int .i64 a0_0, .int .i64 a0_1, .int .i64 a0_2, .slice Ao10 y390.length co10, .int .i64 a0_4, .int .i64 0, .int .i64 0, .int .i64 0, .int .i64 0, .int .i64 0, .int .i64 0, .string (⟨#[]⟩ : ByteArray), .string (⟨#[]⟩ : ByteArray)]) ?_ 5 _ rfl; (with_reducible repeat (first | refine blk_drewN ?_ _ | refine blk_drew ?_ | refine blk_alloc ?_ _)); refine blk_put (cs := #[.int .i64 a0_0, .int .i64 a0_1, .int .i64 a0_2, .slice Ao10 y390.length co10, .int .i64 0, .int .i64 0, .int .i64 0, .int .i64 0, .int .i64 0, .int .i64 0, .int .i64 0, .string (⟨#[]⟩ : ByteArray), .string (⟨#[]⟩ : ByteArray)]) ?_ 4 _ rfl; (with_reducible repeat (first | refine blk_drewN ?_ _ | refine blk_drew ?_ | refine blk_alloc ?_ _)); refine blk_put (cs := #[.int .i64 a0_0, .int .i64 a0_1, .int .i64 a0_2, .slice none 0 0, .int .i64 0, .int .i64 0, .int .i64 0, .int .i64 0, .int .i64 0, .int .i64 0, .int .i64 0, .string (⟨#[]⟩ : ByteArray), .string (⟨#[]⟩ : ByteArray)]) ?_ 3 _ rfl; (with_reducible repeat (first | refine blk_drewN ?_ _ | refine blk_drew ?_ | refine blk_alloc ?_ _)); refine blk_put (cs := #[.int .i64 a0_0, .int .i64 a0_1, .int .i64 0, .slice none 0 0, .int .i64 0, .int .i64 0, .int .i64 0, .int .i64 0, .int .i64 0, .int .i64 0, .int .i64 0, .string (⟨#[]⟩ : ByteArray), .string (⟨#[]⟩ : ByteArray)]) ?_ 2 _ rfl; (with_reducible repeat (first | refine blk_drewN ?_ _ | refine blk_drew ?_ | refine blk_alloc ?_ _)); refine blk_put (cs := #[.int .i64 a0_0, .int .i64 0, .int .i64 0, .slice none 0 0, .int .i64 0, .int .i64 0, .int .i64 0, .int .i64 0, .int .i64 0, .int .i64 0, .int .i64 0, .string (⟨#[]⟩ : ByteArray), .string (⟨#[]⟩ : ByteArray)]) ?_ 1 _ rfl; (with_reducible repeat (first | refine blk_drewN ?_ _ | refine blk_drew ?_ | refine blk_alloc ?_ _)); refine blk_put (cs := #[.int .i64 0, .int .i64 0, .int .i64 0, .slice none 0 0, .int .i64 0, .int .i64 0, .int .i64 0, .int .i64 0, .int .i64 0, .int .i64 0, .int .i64 0, .string (⟨#[]⟩ : ByteArray), .string (⟨#[]⟩ : ByteArray)]) ?_ 0 _ rfl; (with_reducible repeat (first | refine blk_drewN ?_ _ | refine blk_drew ?_ | refine blk_alloc ?_ _)); refine blk_far ?_ NB386_385.out _; (with_reducible repeat (first | refine blk_drewN ?_ _ | refine blk_drew ?_ | refine blk_alloc ?_ _)); exact BK386.out) Try.underlying32 rfl (by kernel_rfl)) rfl ?_
  exact ⟨_, by first | rfl | (simp [errW_none, errW_some] <;> rfl) | (simp [*, errW_none, errW_some] <;> rfl), by (with_reducible repeat (first | apply Kd.R_alloc | apply Kd.R_drewN | apply Kd.R_drew)); exact Kd.R_mono (Kd.R_far (p := ⟨gb386, 12, none⟩) (Kd.R_far (p := ⟨gb386, 11, none⟩) (Kd.R_far (p := ⟨gb386, 10, none⟩) (Kd.R_far (p := ⟨gb386, 9, none⟩) (Kd.R_far (p := ⟨gb386, 8, none⟩) (Kd.R_far (p := ⟨gb386, 7, none⟩) (Kd.R_far (p := ⟨gb386, 6, none⟩) (Kd.R_far (p := ⟨gb386, 5, none⟩) (Kd.R_far (p := ⟨gb386, 4, none⟩) (Kd.R_far (p := ⟨gb386, 3, none⟩) (Kd.R_far (p := ⟨gb386, 2, none⟩) (Kd.R_far (p := ⟨gb386, 1, none⟩) (Kd.R_far (p := ⟨gb386, 0, none⟩) (Kd.R_far (p := ⟨gb385, 3, none⟩) (Kd.R_types (Kd.R_types HO392.out BK385.out (by decide)) BK386.out (by decide)) (fun _ hk => hk.1.2) (.slice Ao10 y390.length co10)) (fun _ hk => hk.2) (.int .i64 a0_0)) (fun _ hk => hk.2) (.int .i64 a0_1)) (fun _ hk => hk.2) (.int .i64 a0_2)) (fun _ hk => hk.2) (.slice Ao10 y390.length co10)) (fun _ hk => hk.2) (.int .i64 a0_4)) (fun _ hk => hk.2) (.int .i64 a0_5)) (fun _ hk => hk.2) (.int .i64 a0_6)) (fun _ hk => hk.2) (.int .i64 a0_7)) (fun _ hk => hk.2) (.int .i64 a0_8)) (fun _ hk => hk.2) (.int .i64 a0_9)) (fun _ hk => hk.2) (.int .i64 a0_10)) (fun _ hk => hk.2) (.string a0_11)) (fun _ hk => hk.2) (.string a0_12)) (fun _ hk => trivial), by repeat (first | (with_reducible first | exact HB.out | apply below_alloc | apply pw_below_drewN | apply below_drew1 | refine below_set ?_ GE385.out | refine below_set ?_ GE386.out) | exact HB.out)⟩
 ·rw [if_neg c2] at H
  exact absurd H (by simp)
theorem copy_is (y : S32) (h : y.f2.length ≤ 64) : change_Copy.f y.f0.f0 y.f0.f1 y.f1 y.f2 y.f3 y.f4.f0 y.f4.f1 y.f5.f0 y.f5.f1 y.f6.f0 y.f6.f1 y.f7 y.f8 = some (y.f0.f0, y.f0.f1, y.f1, y.f2, y.f3, y.f4.f0, y.f4.f1, y.f5.f0, y.f5.f1, y.f6.f0, y.f6.f1, y.f7, y.f8) := by
 unfold change_Copy.f
 rw [Option.bind_some, if_pos (by simp only [List.length_nil]; omega), List.nil_append]
set_option maxHeartbeats 8000000 in
set_option maxRecDepth 100000 in
theorem held_calls {w : World} {base : Nat} {P : Nat → Prop} {g : Nat} {room : Int} {l : List S32} (hB : BufI w base P g room l) (hn : l.length < 1000) (hl64 : ∀ y ∈ l, y.f2.length ≤ 64) :
  Calls Try.prog 22 #[.pointer (some ⟨g, 0, none⟩)] w fun e w' => ∃ v', e = .returned v' ∧ Kd.S k32 32 w' w.heap.size (fun k => w.heap.size ≤ k) v' l ∧ Below w.heap.size w w' := by
 obtain ⟨mb, es, cc, A, ch, hO⟩ := hB.opened
 have HO := Aside0.mk hO
 have HN := Aside0.mk hn
 have H64 := Aside0.mk hl64
 have q1 : w.cell? ⟨g, 1, none⟩ = some (.slice A l.length ch) := (blk_cell hO.blk 1).trans rfl
 clear hB hO hn hl64
 go_enter Try.func22, Try.ntmps22
 go_wp2_with (fail)
 go_loopw [3, 13] (fun v3 v13 wq => ∃ (i : Nat) (ov : Value), v13 = .int .i64 (i : Int) ∧ ov = v3 ∧ Aside0 (i ≤ l.length) ∧ Aside0 (Kd.S k32 32 wq w.heap.size (fun k => w.heap.size ≤ k) ov (l.take i)) ∧ Aside0 (Below w.heap.size w wq)) (fun _ v13 _ => l.length - (intOf v13).toNat)
 case atStart => exact ⟨0, _, rfl, rfl, ⟨Nat.zero_le _⟩, ⟨Kd.S_nil _ _ _ _ _⟩, ⟨Below.refl _ _⟩⟩
 case round =>
  clear q1
  obtain ⟨i, ov, rfl, rfl, HI, HS, HBq⟩ := hrel
  by_cases hi : i < l.length
  case neg =>
   have e1 : decide (i < l.length) = false := decide_eq_false hi
   have ht : l.take i = l := List.take_of_length_le (by omega)
   rw [ht] at HS
   clear ht hi
   go_wp2_with (fail)
   go_ret
   exact ⟨ov, rfl, HS.out, HBq.out⟩
  have HI' := Aside0.mk hi
  obtain ⟨gr, cap, hform, hbgr, hgrw, cells, hgr⟩ := Kd.S_form HO.out.row (by omega)
  injection hform with hA _ hch
  subst hA; subst hch
  obtain ⟨c', hcl, hM, hcc, hfr⟩ := Kd.R_elem (Kd.S_R HO.out.row) z32 (i : Int) (by omega) (by omega)
  rw [Int.toNat_natCast] at hcc
  obtain ⟨v, rfl, hv⟩ := chM hM
  have hv2 : (Kd.int .i64).R 3 w base _ v (rd_T32 l (i : Int)).f2 := hv
  have hcc2 : ∀ j u, (chL (rd_T32 l (i : Int)) v)[j]? = some u → w.cell? ⟨gr, i * 13 + j, none⟩ = some u := hcc
  have hy : rd_T32 l (i : Int) ∈ l := List.mem_of_getElem? (rd32_at hi)
  have htk : l.take (i + 1) = l.take i ++ [rd_T32 l (i : Int)] := by
   rw [List.take_add_one, rd32_at hi]
   rfl
  obtain ⟨y, hyy⟩ : ∃ y, rd_T32 l (i : Int) = y := ⟨_, rfl⟩
  rw [hyy] at hv2 hcc2 hy htk
  clear hv hcc hM hcl hfr
  obtain ⟨Ae, ce, rfl, hle, hCe⟩ := Kd.R_reads hv2
  have HTK := Aside0.mk htk
  have HCC := Aside0.mk hcc2
  have HCE := Aside0.mk (Kd.C_below hCe HBq.out)
  have HLE := Aside0.mk hle
  have HCP := Aside0.mk (copy_is y (H64.out y hy))
  have HGRW := Aside0.mk hgrw
  have b1 : (0 ≤ (i : Int)) = True := eq_true (by omega)
  have b2 : ((i : Int) < (l.length : Int)) = True := eq_true (by omega)
  have b3 : (i < l.length) = True := eq_true hi
  have b4 : decide (i < l.length) = true := decide_eq_true hi
  clear hyy hcc2 hCe hle hgrw hgr hbgr hv2 hy hi htk
  go_wp2_with (first | ((with_reducible refine gate_dst (N := 16) rfl ?_); refine load32_ev rfl (N := 16) rfl y (.slice Ae y.f2.length ce) (p := .tmp 15) rfl (ad := ⟨gr, i * 13, none⟩) rfl (fun j u hj => by rw [add_at]; exact (HBq.out.cell (p := ⟨gr, i * 13 + j, none⟩) HGRW.out).trans (HCC.out j u hj)) ?_) | ((with_reducible refine gate_dst (N := 5) rfl ?_); refine box_event ?hg (N := 5) ?hd (cs := #[.int .i64 0, .int .i64 0, .int .i64 0, .slice none 0 0, .int .i64 0, .int .i64 0, .int .i64 0, .int .i64 0, .int .i64 0, .int .i64 0, .int .i64 0, .string ⟨#[]⟩, .string ⟨#[]⟩]) (t := 32) ?hr ?_; (case hd => rfl); (case hg => rfl); (case hr => first | (go_simp; done) | (go_simp; rfl)); intro gc hr_ wa hbox hb; have HXgc := Aside0.mk hbox; have HBgc := Aside0.mk hb; have HNgc := Aside0.mk (Nat.le_of_eq hr_.symm); clear hbox hb hr_) | ((with_reducible refine gate_store (t := 32) (p := 5) (v := .tmp 16) rfl ?_); refine store32_ev rfl rfl y (.slice Ae y.f2.length ce) (p := .tmp 5) (q := .tmp 16) rfl (g := gc) rfl rfl rfl HXgc.out rfl ?_; intro wb hb_ hg_; have HSgc := Aside0.mk hb_; have HGgc := Aside0.mk hg_; clear hb_ hg_; have HBqb := Aside0.mk (HBgc.out.grown HGgc.out HBgc.out.size (fun k hk => by injection hk with hk; rw [← hk]; exact HNgc.out)); have HBb := Aside0.mk (HBq.out.trans (HBqb.out.mono HBq.out.size))) | ((with_reducible refine gate_dst (N := 18) rfl ?_); refine load32_ev rfl (N := 18) rfl y (.slice Ae y.f2.length ce) (p := .tmp 5) rfl (ad := ⟨gc, 0, none⟩) rfl (blk_cells HSgc.out) ?_) | (go_at_call 39; (with_reducible refine (change_Copy.calls y.f0.f0 y.f0.f1 y.f1 Ae ce y.f2 y.f3 y.f4.f0 y.f4.f1 y.f5.f0 y.f5.f1 y.f6.f0 y.f6.f1 y.f7 y.f8 y.f0.f0 y.f0.f1 y.f1 y.f2 y.f3 y.f4.f0 y.f4.f1 y.f5.f0 y.f5.f1 y.f6.f0 y.f6.f1 y.f7 y.f8 _ ?s3 ?s4 HCP.out).mono ?_); (case s3 => exact Kd.C_below HCE.out HBqb.out); (case s4 => exact HLE.out); rintro e we ⟨v1e, rfl, hv1, hbc⟩; have HV1 := Aside0.mk (Kd.R_mono (Kd.R_bound hv1) (ok' := fun k => wb.heap.size ≤ k ∧ k < we.heap.size) (fun k hk => ⟨hk.2.1, hk.2.2.1⟩)); have HBC := Aside0.mk hbc; have HBE := Aside0.mk (HBb.out.trans (hbc.mono HBb.out.size)); have HROWS := Aside0.mk (Kd.S_below (Kd.S_mono (Kd.S_bound (Kd.S_below HS.out HBqb.out)) (ok' := fun k => w.heap.size ≤ k ∧ ¬ (wb.heap.size ≤ k ∧ k < we.heap.size)) (fun k hk => ⟨hk.1, fun h => Nat.lt_irrefl _ (Nat.lt_of_lt_of_le hk.2.2.1 h.1)⟩)) hbc); clear hv1 hbc) | ((with_reducible refine gate_builtin (b := .append) (xs := #[.tmp 17, .tmp 20]) rfl ?_); at_builtin; refine Kd.S_append k32 (w0 := w) w.heap.size rfl (.tmp 17) (.tmp 20) 22 32 (.agg #[.int .i64 0, .int .i64 0, .int .i64 0, .slice none 0 0, .int .i64 0, .int .i64 0, .int .i64 0, .int .i64 0, .int .i64 0, .int .i64 0, .int .i64 0, .string ⟨#[]⟩, .string ⟨#[]⟩]) 136 rfl Try.underlying22 info32 rfl (by decide) (by omega) ov (l.take i) y (chL y v1e) (fun k => w.heap.size ≤ k) (fun k => wb.heap.size ≤ k ∧ k < we.heap.size) rfl rfl (chMk (Kd.R_lower HV1.out HBb.out.size)) ?hokp (fun k hk => Nat.le_trans HBE.out.size hk) HROWS.out HBE.out HBE.out.size ?hl ?_; (case hokp => exact fun k hk => ⟨Nat.le_trans HBb.out.size hk.1, fun e => by have h1_ := Kd.S_lt (Kd.S_below HS.out HBqb.out) k e.symm; omega⟩); (case hl => have h1_ := HN.out; have h2_ := List.length_take_le i l; have h3_ := HI'.out; omega); intro v8 wf hs8 hb8 hg8 hat8; have HS8 := Aside0.mk hs8; have HB8 := Aside0.mk hb8; clear hs8 hb8 hg8 hat8))
  have hiw : i < 100000 := by have h1_ := HI'.out; have h2_ := HN.out; omega
  rw [Go.Proofs.Ytnopjjilpgekfaa.PCa.w1 hiw]
  exact ⟨⟨i + 1, v8, rfl, rfl, ⟨HI'.out⟩, ⟨by rw [HTK.out]; exact HS8.out⟩, ⟨HB8.out⟩⟩, dec_lt HI'.out⟩
def seaa.T5 : Bool × List (List Nat × List Nat) := (true, [([], []), ([], []), ([], []), ([1, 2], [1, 2]), ([3], [3]), ([], []), ([0, 4, 5], [0, 4, 5]), ([6], [6])])
def seaa.B5 : List Nat := [0, 0, 0, 6, 14, 0, 63, 127]
theorem seaa.tab5 : rtab .any (opsOf Try.f41 5) = seaa.T5 := by kernel_rfl
theorem seaa.bits5 : waitsOk seaa.T5.2 seaa.B5 = true := by kernel_rfl
def seab.T8 : Bool × List (List Nat × List Nat) := (true, [([], []), ([], []), ([], []), ([1, 2], [1, 2]), ([3], [3]), ([4], [4]), ([4], [4]), ([4], [4]), ([6, 7, 4], [4, 6, 7]), ([8, 4], [4, 8]), ([4], [4]), ([5, 9, 10, 4, 4], [4, 5, 9, 10]), ([11, 4], [4, 11]), ([4, 12], [4, 12]), ([0, 11, 0], [0]), ([13, 14, 0, 1, 2, 3, 4, 5, 6, 7, 8, 9, 10, 11, 12, 13, 14], [13])])
def seab.B8 : List Nat := [0, 0, 0, 6, 14, 30, 30, 30, 222, 478, 30, 2046, 4094, 8190, 4095, 32767]
theorem seab.tab8 : rtab .any (opsOf Try.f41 8) = seab.T8 := by kernel_rfl
theorem seab.bits8 : waitsOk seab.T8.2 seab.B8 = true := by kernel_rfl
theorem goesF_ {P : Program} {ops : Array Oper} {Q : Exit → Act → World → Prop} {oi : Oper} {N : Option Tmp} {a : Act} {w : World} {K : Act → World → Prop} {f : FuncId} {fn : Func} {p : Operand} {ar : Array Operand} {ts : Array TypeId} (hf : P.funcs[f]? = some fn) (hname : (fn.name == "runtime.NumGoroutine") = false) (hb : fn.body.isSome = true) (args : Array Value)
  (hw : Region.wanted oi (yielded ops a.tmps) = true) (hN : oi.dst = N) (hop : oi.op = .call { callee := .value p, args := ar, argTypes := ts }) (hp : a.eval p = .func (.func f) #[] #[]) (hargs : ar.map a.eval = args)
  (h : Calls P f args w fun e w' => ∃ v, e = .returned v ∧ K (a.put N v) w') : if Region.wanted oi (yielded ops a.tmps) = true then Oper.wp P oi a w K Q else K (a.put N undef) w := by
 refine call_ f args hw hN ?_ h
 have he := enters_ hf hname hb args w
 unfold execOp
 simp only [hop, resolve, hp]
 simp [Deferred.ofValue, invoke, hargs, he]
theorem count_first {α : Type} (p : α → Bool) : ∀ (l : List α) (i : Nat), i ≤ l.length → (∀ t a, t < i → l[t]? = some a → p a = true) → (∀ t a, i ≤ t → l[t]? = some a → p a = false) → l.countP p = i
 | [], i, hi, _, _ => by simp at hi; simp [hi]
 | a :: r, 0, _, _, h2 => by
  rw [List.countP_eq_zero]
  intro x hx
  obtain ⟨t, ht⟩ := List.mem_iff_getElem?.1 hx
  rw [h2 t x (Nat.zero_le _) ht]
  decide
 | a :: r, i + 1, hi, h1, h2 => by
  rw [List.countP_cons_of_pos (h1 0 a (Nat.succ_pos _) rfl), count_first p r i (by simpa using hi) (fun t b ht hb => h1 (t + 1) b (by omega) hb) (fun t b ht hb => h2 (t + 1) b (by omega) hb)]
def SearchPost (n : Nat) (w : World) (e : Ending) (w' : World) : Prop := ∃ b, e = .returned (.tuple #[.int .i64 (n : Int), .bool b]) ∧ Below w.heap.size w w'
theorem SearchPost.mk {n m : Nat} {w w' : World} {e : Ending} (h : n = m) (b : Bool) (he : e = .returned (.tuple #[.int .i64 (m : Int), .bool b])) (hb : Below w.heap.size w w') : SearchPost n w e w' := ⟨b, by rw [h]; exact he, hb⟩
def cntX (x : S32) (l : List S32) : Nat := l.countP (fun y => decide (cmpX y x < 0))
set_option maxHeartbeats 8000000 in
set_option maxRecDepth 100000 in
theorem search_calls {w : World} {base : Nat} {ok : Nat → Prop} {A : Option Addr} {c0 : Nat} {l : List S32} (hS : Kd.S k32 32 w base ok (.slice A l.length c0) l) (hn : l.length < 1000) (x : S32) (A3 : Option Addr) (c3 : Nat) (hx : Kd.C (Kd.int .i64) w A3 x.f2.length x.f2) (hx3 : x.f2.length ≤ c3)
  (hb : ∀ y ∈ l, 0 ≤ y.f1 ∧ y.f1 ≤ 1099511627776) (hbx : 0 ≤ x.f1 ∧ x.f1 ≤ 1099511627776) (hmono : ∀ a b, a ≤ b → b < l.length → cmpX (rd_T32 l (b : Nat)) x < 0 → cmpX (rd_T32 l (a : Nat)) x < 0) :
  Calls Try.prog 41 #[.slice A l.length c0, (.agg #[.int .i64 x.f0.f0, .int .i64 x.f0.f1, .int .i64 x.f1, (.slice A3 x.f2.length c3), .int .i64 x.f3, .int .i64 x.f4.f0, .int .i64 x.f4.f1, .int .i64 x.f5.f0, .int .i64 x.f5.f1, .int .i64 x.f6.f0, .int .i64 x.f6.f1, .string x.f7, .string x.f8]), .func (.func 42) #[] #[]] w (SearchPost (cntX x l) w) := by
 have HS := Aside0.mk hS
 have HN := Aside0.mk hn
 have HX := Aside0.mk hx
 have HX3 := Aside0.mk hx3
 have HB := Aside0.mk hb
 have HBX := Aside0.mk hbx
 have HM := Aside0.mk hmono
 clear hS hn hx hx3 hb hbx hmono
 go_enter Try.func41, Try.ntmps41
 go_wp2_with (first | ((with_reducible refine gate_dst (N := 4) rfl ?_); refine box_event ?hg (N := 4) ?hd (cs := #[.int .i64 x.f0.f0, .int .i64 x.f0.f1, .int .i64 x.f1, (.slice A3 x.f2.length c3), .int .i64 x.f3, .int .i64 x.f4.f0, .int .i64 x.f4.f1, .int .i64 x.f5.f0, .int .i64 x.f5.f1, .int .i64 x.f6.f0, .int .i64 x.f6.f1, .string x.f7, .string x.f8]) (t := 32) ?hr ?_; (case hd => rfl); (case hg => rfl); (case hr => first | (go_simp; done) | (go_simp; rfl)); intro gb hr_ w0 hbox hb; have HXgb := Aside0.mk hbox; have HBgb := Aside0.mk hb; have HNgb := Aside0.mk (Nat.le_of_eq hr_.symm); clear hbox hb hr_))
 go_loopg [9, 10] l.length (fun kx s9 s10 wr => ∃ lo hi : Nat, s9 = .int .i64 lo ∧ s10 = .int .i64 hi ∧ Aside0 (lo ≤ hi) ∧ Aside0 (hi ≤ l.length) ∧ Aside0 (hi - lo ≤ kx) ∧ Aside0 (Below w0.heap.size w0 wr) ∧
  Aside0 ((∀ t, t < lo → cmpX (rd_T32 l (t : Nat)) x < 0) ∧ (∀ t, hi ≤ t → t < l.length → 0 ≤ cmpX (rd_T32 l (t : Nat)) x)))
 case atStart => exact ⟨0, l.length, rfl, rfl, ⟨Nat.zero_le _⟩, ⟨Nat.le_refl _⟩, ⟨by omega⟩, ⟨Below.refl _ _⟩, ⟨⟨fun t ht => absurd ht (Nat.not_lt_zero _), fun t h1 h2 => by omega⟩⟩⟩
 case round =>
  obtain ⟨lo, hi, rfl, rfl, HLH, HIN, HG, HBL, HI⟩ := hrel
  obtain ⟨wo, rfl⟩ : ∃ wo, wo = wr := ⟨wr, rfl⟩
  by_cases hlt : lo < hi
  ·have hlb := HIN.out
   have hnb := HN.out
   go_wp2_with (fail)
   obtain ⟨m, hm⟩ : ∃ m : Nat, ((lo : Int) + (hi : Int)) / 2 = (m : Int) := ⟨(lo + hi) / 2, by omega⟩
   rw [hm]
   have hm1 : lo ≤ m := by omega
   have hm2 : m < hi := by omega
   have hml : m < l.length := by omega
   obtain ⟨gr, cap, hform, hbgr, hgrw, cells, hgr⟩ := Kd.S_form HS.out (by omega)
   injection hform with hA _ hch
   subst hA; subst hch
   obtain ⟨c', hcl, hM, hcc, hfr⟩ := Kd.R_elem (Kd.S_R HS.out) z32 (m : Int) (by omega) (by omega)
   rw [Int.toNat_natCast] at hcc
   obtain ⟨v, rfl, hv⟩ := chM hM
   have hv2 : (Kd.int .i64).R 3 w base _ v (rd_T32 l (m : Int)).f2 := hv
   have hcc2 : ∀ j u, (chL (rd_T32 l (m : Int)) v)[j]? = some u → w.cell? ⟨gr, m * 13 + j, none⟩ = some u := hcc
   have hy : rd_T32 l (m : Int) ∈ l := List.mem_of_getElem? (rd32_at hml)
   obtain ⟨y, hyy⟩ : ∃ y, rd_T32 l (m : Int) = y := ⟨_, rfl⟩
   rw [hyy] at hv2 hcc2 hy
   clear hv hcc hM hcl hfr
   obtain ⟨Ae, ce, rfl, hle, hCe⟩ := Kd.R_reads hv2
   have hbw : Below w.heap.size w wo.drew := below_drew (HBgb.out.trans (HBL.out.mono HBgb.out.size))
   have HBW := Aside0.mk hbw
   have hS5 : (fun w' => (∀ j u, (chL y (.slice Ae y.f2.length ce))[j]? = some u → w'.cell? ((⟨gr, m * 13, none⟩ : Addr).add j) = some u) ∧ w'.heap[gb]? = some (.cells (chA x (.slice A3 x.f2.length c3)) 32 (0, 0))) wo.drew := ⟨fun j u hj => by rw [add_at]; exact (hbw.cell (p := ⟨gr, m * 13 + j, none⟩) hgrw).trans (hcc2 j u hj), blk_below HXgb.out (below_drew HBL.out)⟩
   have HS5 := Aside0.mk hS5
   have HY := Aside0.mk hyy
   have HCE := Aside0.mk (Kd.C_below hCe hbw)
   have HCX := Aside0.mk (Kd.C_below HX.out hbw)
   have HLE := Aside0.mk hle
   have HCMP := Aside0.mk (compare_is y x (HB.out y hy) HBX.out)
   have HM1 := Aside0.mk hm1
   have HM2 := Aside0.mk hm2
   have HML := Aside0.mk hml
   have b1 : (0 ≤ (m : Int)) = True := eq_true (by omega)
   have b2 : ((m : Int) < (l.length : Int)) = True := eq_true (by omega)
   have b3 : (m < l.length) = True := eq_true hml
   clear hlb hnb hm hm1 hm2 hml hgr hbgr hgrw hv2 hcc2 hy hyy hCe hle hbw hS5 hlt
   obtain ⟨r, hr⟩ : ∃ r, cmpX y x = r := ⟨_, rfl⟩
   rw [hr] at HCMP
   have HRX := Aside0.mk hr
   clear hr
   by_cases hneg : r < 0
   ·have d1 : decide (r < 0) = true := decide_eq_true hneg
    have HNG := Aside0.mk hneg
    clear hneg
    refine start_ (n := 8) (S := (fun w' => (∀ j u, (chL y (.slice Ae y.f2.length ce))[j]? = some u → w'.cell? ((⟨gr, m * 13, none⟩ : Addr).add j) = some u) ∧ w'.heap[gb]? = some (.cells (chA x (.slice A3 x.f2.length c3)) 32 (0, 0)))) (ds := []) #[false, false, false, false, false, false, false, false] (by kernel_rfl) rfl rfl (HS5.out) (fun hHeld => ?_)
    refine with_tabW seaa.tab5 seaa.bits5 (fun HT_ HW_ => ?_)
    refine pureS (i := 0) (N := (some 24)) #[true, false, false, false, false, false, false, false] HT_ ?_
    refine pureS (i := 1) (N := (some 25)) #[true, true, false, false, false, false, false, false] HT_ ?_
    refine pureS (i := 2) (N := (some 26)) #[true, true, true, false, false, false, false, false] HT_ ?_
    refine pureS (i := 3) (N := (some 27)) #[true, true, true, true, false, false, false, false] HT_ ?_
    refine take_ (i := 4) (N := (some 28)) (v := ?_) (a' := ?_) #[true, true, true, true, true, false, false, false] rfl rfl (take_ofW HT_.out HW_.out (by kernel_rfl)) (fun _ _ _ h => h) (Or.inl ⟨by rfl, ?_⟩) hHeld ?_ ?_
    rotate_left
    ·rintro w' ⟨s0, s1⟩
     refine Eq.trans (load32_run (x := y) (v := (.slice Ae y.f2.length ce)) _ (p := .tmp 27) ?ho_ ?hp_ s0) ?hr_
     case ho_ => rfl
     case hp_ => rfl
     case hr_ => rfl
    rotate_left
    ·simp only [Act.put, List.setIfInBounds_toArray, List.set_cons_zero, List.set_cons_succ, i64_w, i32_w]
     rfl
    refine take_ (i := 5) (N := (some 29)) (v := ?_) (a' := ?_) #[true, true, true, true, true, true, false, false] rfl rfl (take_ofW HT_.out HW_.out (by kernel_rfl)) (fun _ _ _ h => h) (Or.inl ⟨by rfl, ?_⟩) hHeld ?_ ?_
    rotate_left
    ·rintro w' ⟨s0, s1⟩
     refine Eq.trans (load32_run (x := x) (v := (.slice A3 x.f2.length c3)) _ (p := .tmp 4) ?ho_ ?hp_ (blk_cells s1)) ?hr_
     case ho_ => rfl
     case hp_ => rfl
     case hr_ => rfl
    rotate_left
    ·simp only [Act.put, List.setIfInBounds_toArray, List.set_cons_zero, List.set_cons_succ, i64_w, i32_w]
     rfl
    refine one_ (i := 6) (N := (some 30)) #[true, true, true, true, true, true, true, false] rfl rfl (one_of HT_.out (by kernel_rfl)) (by decide) (fun K hK => ?_)
    refine goesF_ Try.func42 (by kernel_rfl) rfl #[(.agg #[.int .i64 y.f0.f0, .int .i64 y.f0.f1, .int .i64 y.f1, (.slice Ae y.f2.length ce), .int .i64 y.f3, .int .i64 y.f4.f0, .int .i64 y.f4.f1, .int .i64 y.f5.f0, .int .i64 y.f5.f1, .int .i64 y.f6.f0, .int .i64 y.f6.f1, .string y.f7, .string y.f8]), (.agg #[.int .i64 x.f0.f0, .int .i64 x.f0.f1, .int .i64 x.f1, (.slice A3 x.f2.length c3), .int .i64 x.f3, .int .i64 x.f4.f0, .int .i64 x.f4.f1, .int .i64 x.f5.f0, .int .i64 x.f5.f1, .int .i64 x.f6.f0, .int .i64 x.f6.f1, .string x.f7, .string x.f8])] (by rfl) rfl (p := .tmp 24) rfl rfl (by (try simp only [List.map_toArray, List.map_cons, List.map_nil]); first | done | rfl) ?_
    refine (causal_compare.calls y.f0.f0 y.f0.f1 y.f1 Ae ce y.f2 y.f3 y.f4.f0 y.f4.f1 y.f5.f0 y.f5.f1 y.f6.f0 y.f6.f1 y.f7 y.f8 x.f0.f0 x.f0.f1 x.f1 A3 c3 x.f2 x.f3 x.f4.f0 x.f4.f1 x.f5.f0 x.f5.f1 x.f6.f0 x.f6.f1 x.f7 x.f8 r _ HCE.out HLE.out HCX.out HX3.out HCMP.out).mono ?_
    rintro e w5 ⟨rfl, hb5⟩
    refine ⟨_, rfl, ?_⟩
    have hS6 : (fun w' => (∀ j u, (chL y (.slice Ae y.f2.length ce))[j]? = some u → w'.cell? ((⟨gr, m * 13, none⟩ : Addr).add j) = some u) ∧ w'.heap[gb]? = some (.cells (chA x (.slice A3 x.f2.length c3)) 32 (0, 0))) w5 := ⟨fun j u hj => (World.cell?_of_block (hb5.block _ (World.block_lt_of_cell? _ _ (hHeld.1 j u hj)))).trans (hHeld.1 j u hj), blk_below hHeld.2 hb5⟩
    have HB5 := Aside0.mk hb5
    clear hb5
    refine hK.out _ _ (hS6) (fun hHeld => ?_)
    clear hK K
    refine norm_ (a' := ?_) ?_ ?_
    rotate_left
    ·show Act.put _ (some 30) _ = _
     simp only [Act.put, List.setIfInBounds_toArray, List.set_cons_zero, List.set_cons_succ, i64_w, i32_w]
     rfl
    refine pureS (i := 7) (N := (some 31)) #[true, true, true, true, true, true, true, true] HT_ ?_
    refine done_ (done_of HT_.out (by kernel_rfl)) ?_
    go_wp2_with (fail)
    have hmw : m < 100000 := by have h1_ := HML.out; have h2_ := HN.out; omega
    rw [Go.Proofs.Ytnopjjilpgekfaa.PCa.w1 hmw]
    go_roundg (hi - (m + 1))
    case measure => have h1_ := HG.out; have h2_ := HM1.out; have h3_ := HM2.out; omega
    case rel =>
     refine ⟨m + 1, hi, rfl, rfl, ⟨HM2.out⟩, HIN, ⟨Nat.le_refl _⟩, ⟨HBL.out.trans ((below_drew (Below.refl _ _)).trans (HB5.out.mono (Nat.le_refl _)) |>.mono HBL.out.size)⟩, ⟨fun t ht => ?_, HI.out.2⟩⟩
     exact HM.out t m (Nat.le_of_lt_succ ht) HML.out (by rw [HY.out, HRX.out]; exact HNG.out)
   ·have d1 : decide (r < 0) = false := decide_eq_false hneg
    have HNG := Aside0.mk hneg
    clear hneg
    refine start_ (n := 8) (S := (fun w' => (∀ j u, (chL y (.slice Ae y.f2.length ce))[j]? = some u → w'.cell? ((⟨gr, m * 13, none⟩ : Addr).add j) = some u) ∧ w'.heap[gb]? = some (.cells (chA x (.slice A3 x.f2.length c3)) 32 (0, 0)))) (ds := []) #[false, false, false, false, false, false, false, false] (by kernel_rfl) rfl rfl (HS5.out) (fun hHeld => ?_)
    refine with_tabW seaa.tab5 seaa.bits5 (fun HT_ HW_ => ?_)
    refine pureS (i := 0) (N := (some 24)) #[true, false, false, false, false, false, false, false] HT_ ?_
    refine pureS (i := 1) (N := (some 25)) #[true, true, false, false, false, false, false, false] HT_ ?_
    refine pureS (i := 2) (N := (some 26)) #[true, true, true, false, false, false, false, false] HT_ ?_
    refine pureS (i := 3) (N := (some 27)) #[true, true, true, true, false, false, false, false] HT_ ?_
    refine take_ (i := 4) (N := (some 28)) (v := ?_) (a' := ?_) #[true, true, true, true, true, false, false, false] rfl rfl (take_ofW HT_.out HW_.out (by kernel_rfl)) (fun _ _ _ h => h) (Or.inl ⟨by rfl, ?_⟩) hHeld ?_ ?_
    rotate_left
    ·rintro w' ⟨s0, s1⟩
     refine Eq.trans (load32_run (x := y) (v := (.slice Ae y.f2.length ce)) _ (p := .tmp 27) ?ho_ ?hp_ s0) ?hr_
     case ho_ => rfl
     case hp_ => rfl
     case hr_ => rfl
    rotate_left
    ·simp only [Act.put, List.setIfInBounds_toArray, List.set_cons_zero, List.set_cons_succ, i64_w, i32_w]
     rfl
    refine take_ (i := 5) (N := (some 29)) (v := ?_) (a' := ?_) #[true, true, true, true, true, true, false, false] rfl rfl (take_ofW HT_.out HW_.out (by kernel_rfl)) (fun _ _ _ h => h) (Or.inl ⟨by rfl, ?_⟩) hHeld ?_ ?_
    rotate_left
    ·rintro w' ⟨s0, s1⟩
     refine Eq.trans (load32_run (x := x) (v := (.slice A3 x.f2.length c3)) _ (p := .tmp 4) ?ho_ ?hp_ (blk_cells s1)) ?hr_
     case ho_ => rfl
     case hp_ => rfl
     case hr_ => rfl
    rotate_left
    ·simp only [Act.put, List.setIfInBounds_toArray, List.set_cons_zero, List.set_cons_succ, i64_w, i32_w]
     rfl
    refine one_ (i := 6) (N := (some 30)) #[true, true, true, true, true, true, true, false] rfl rfl (one_of HT_.out (by kernel_rfl)) (by decide) (fun K hK => ?_)
    refine goesF_ Try.func42 (by kernel_rfl) rfl #[(.agg #[.int .i64 y.f0.f0, .int .i64 y.f0.f1, .int .i64 y.f1, (.slice Ae y.f2.length ce), .int .i64 y.f3, .int .i64 y.f4.f0, .int .i64 y.f4.f1, .int .i64 y.f5.f0, .int .i64 y.f5.f1, .int .i64 y.f6.f0, .int .i64 y.f6.f1, .string y.f7, .string y.f8]), (.agg #[.int .i64 x.f0.f0, .int .i64 x.f0.f1, .int .i64 x.f1, (.slice A3 x.f2.length c3), .int .i64 x.f3, .int .i64 x.f4.f0, .int .i64 x.f4.f1, .int .i64 x.f5.f0, .int .i64 x.f5.f1, .int .i64 x.f6.f0, .int .i64 x.f6.f1, .string x.f7, .string x.f8])] (by rfl) rfl (p := .tmp 24) rfl rfl (by (try simp only [List.map_toArray, List.map_cons, List.map_nil]); first | done | rfl) ?_
    refine (causal_compare.calls y.f0.f0 y.f0.f1 y.f1 Ae ce y.f2 y.f3 y.f4.f0 y.f4.f1 y.f5.f0 y.f5.f1 y.f6.f0 y.f6.f1 y.f7 y.f8 x.f0.f0 x.f0.f1 x.f1 A3 c3 x.f2 x.f3 x.f4.f0 x.f4.f1 x.f5.f0 x.f5.f1 x.f6.f0 x.f6.f1 x.f7 x.f8 r _ HCE.out HLE.out HCX.out HX3.out HCMP.out).mono ?_
    rintro e w5 ⟨rfl, hb5⟩
    refine ⟨_, rfl, ?_⟩
    have hS6 : (fun w' => (∀ j u, (chL y (.slice Ae y.f2.length ce))[j]? = some u → w'.cell? ((⟨gr, m * 13, none⟩ : Addr).add j) = some u) ∧ w'.heap[gb]? = some (.cells (chA x (.slice A3 x.f2.length c3)) 32 (0, 0))) w5 := ⟨fun j u hj => (World.cell?_of_block (hb5.block _ (World.block_lt_of_cell? _ _ (hHeld.1 j u hj)))).trans (hHeld.1 j u hj), blk_below hHeld.2 hb5⟩
    have HB5 := Aside0.mk hb5
    clear hb5
    refine hK.out _ _ (hS6) (fun hHeld => ?_)
    clear hK K
    refine norm_ (a' := ?_) ?_ ?_
    rotate_left
    ·show Act.put _ (some 30) _ = _
     simp only [Act.put, List.setIfInBounds_toArray, List.set_cons_zero, List.set_cons_succ, i64_w, i32_w]
     rfl
    refine pureS (i := 7) (N := (some 31)) #[true, true, true, true, true, true, true, true] HT_ ?_
    refine done_ (done_of HT_.out (by kernel_rfl)) ?_
    go_wp2_with (fail)
    go_roundg (m - lo)
    case measure => have h1_ := HG.out; have h2_ := HM1.out; have h3_ := HM2.out; omega
    case rel =>
     refine ⟨lo, m, rfl, rfl, HM1, ⟨Nat.le_of_lt HML.out⟩, ⟨Nat.le_refl _⟩, ⟨HBL.out.trans ((below_drew (Below.refl _ _)).trans (HB5.out.mono (Nat.le_refl _)) |>.mono HBL.out.size)⟩, ⟨HI.out.1, fun t ht htl => Int.not_lt.1 fun h => ?_⟩⟩
     have h1_ := HM.out m t ht htl h
     rw [HY.out, HRX.out] at h1_
     have h2_ := HNG.out
     omega
  ·have hcn : cntX x l = lo := by
    have h0 := HLH.out
    refine count_first _ l lo (by have := HIN.out; omega) (fun t a ht ha => ?_) (fun t a ht ha => ?_)
    ·have htl := (List.getElem?_eq_some_iff.1 ha).1
     rw [rd32_at htl] at ha
     injection ha with ha
     rw [← ha]
     exact decide_eq_true (HI.out.1 t ht)
    ·have htl := (List.getElem?_eq_some_iff.1 ha).1
     rw [rd32_at htl] at ha
     injection ha with ha
     rw [← ha]
     exact decide_eq_false (Int.not_lt.2 (HI.out.2 t (by omega) htl))
   have HCN := Aside0.mk hcn
   clear hcn
   have g1 : decide (lo < hi) = false := decide_eq_false hlt
   clear hlt
   by_cases hln : lo < l.length
   ·obtain ⟨m, hmm⟩ : ∃ m, lo = m := ⟨_, rfl⟩
    rw [hmm] at HCN hln g1 ⊢
    clear hmm
    obtain ⟨gr, cap, hform, hbgr, hgrw, cells, hgr⟩ := Kd.S_form HS.out (by omega)
    injection hform with hA _ hch
    subst hA; subst hch
    obtain ⟨c', hcl, hM, hcc, hfr⟩ := Kd.R_elem (Kd.S_R HS.out) z32 (m : Int) (by omega) (by omega)
    rw [Int.toNat_natCast] at hcc
    obtain ⟨v, rfl, hv⟩ := chM hM
    have hv2 : (Kd.int .i64).R 3 w base _ v (rd_T32 l (m : Int)).f2 := hv
    have hcc2 : ∀ j u, (chL (rd_T32 l (m : Int)) v)[j]? = some u → w.cell? ⟨gr, m * 13 + j, none⟩ = some u := hcc
    have hy : rd_T32 l (m : Int) ∈ l := List.mem_of_getElem? (rd32_at hln)
    obtain ⟨y, hyy⟩ : ∃ y, rd_T32 l (m : Int) = y := ⟨_, rfl⟩
    rw [hyy] at hv2 hcc2 hy
    clear hv hcc hM hcl hfr
    obtain ⟨Ae, ce, rfl, hle, hCe⟩ := Kd.R_reads hv2
    have hbw : Below w.heap.size w wo.drew := below_drew (HBgb.out.trans (HBL.out.mono HBgb.out.size))
    have HBW := Aside0.mk hbw
    have hS5 : (fun w' => (∀ j u, (chL y (.slice Ae y.f2.length ce))[j]? = some u → w'.cell? ((⟨gr, m * 13, none⟩ : Addr).add j) = some u) ∧ w'.heap[gb]? = some (.cells (chA x (.slice A3 x.f2.length c3)) 32 (0, 0))) wo.drew := ⟨fun j u hj => by rw [add_at]; exact (hbw.cell (p := ⟨gr, m * 13 + j, none⟩) hgrw).trans (hcc2 j u hj), blk_below HXgb.out (below_drew HBL.out)⟩
    have HS5 := Aside0.mk hS5
    have HCE := Aside0.mk (Kd.C_below hCe hbw)
    have HCX := Aside0.mk (Kd.C_below HX.out hbw)
    have HLE := Aside0.mk hle
    have HCMP := Aside0.mk (compare_is y x (HB.out y hy) HBX.out)
    have b1 : (0 ≤ (m : Int)) = True := eq_true (by omega)
    have b2 : ((m : Int) < (l.length : Int)) = True := eq_true (by omega)
    have b3 : (m < l.length) = True := eq_true hln
    have b4 : decide (m < l.length) = true := decide_eq_true hln
    clear hgr hbgr hgrw hv2 hcc2 hy hyy hCe hle hbw hS5 hln
    obtain ⟨r, hr⟩ : ∃ r, cmpX y x = r := ⟨_, rfl⟩
    rw [hr] at HCMP
    clear hr
    go_wp2_with (fail)
    refine start_ (n := 16) (S := (fun w' => (∀ j u, (chL y (.slice Ae y.f2.length ce))[j]? = some u → w'.cell? ((⟨gr, m * 13, none⟩ : Addr).add j) = some u) ∧ w'.heap[gb]? = some (.cells (chA x (.slice A3 x.f2.length c3)) 32 (0, 0)))) (ds := []) #[false, false, false, false, false, false, false, false, false, false, false, false, false, false, false, false] (by kernel_rfl) rfl rfl (HS5.out) (fun hHeld => ?_)
    refine with_tabW seab.tab8 seab.bits8 (fun HT_ HW_ => ?_)
    refine pureS (i := 0) (N := (some 35)) #[true, false, false, false, false, false, false, false, false, false, false, false, false, false, false, false] HT_ ?_
    refine pureS (i := 1) (N := (some 36)) #[true, true, false, false, false, false, false, false, false, false, false, false, false, false, false, false] HT_ ?_
    refine pureS (i := 2) (N := (some 37)) #[true, true, true, false, false, false, false, false, false, false, false, false, false, false, false, false] HT_ ?_
    refine pureS (i := 3) (N := (some 38)) #[true, true, true, true, false, false, false, false, false, false, false, false, false, false, false, false] HT_ ?_
    refine pureS (i := 4) (N := (some 39)) #[true, true, true, true, true, false, false, false, false, false, false, false, false, false, false, false] HT_ ?_
    refine pureS (i := 5) (N := (some 40)) #[true, true, true, true, true, true, false, false, false, false, false, false, false, false, false, false] HT_ ?_
    refine pureS (i := 6) (N := (some 41)) #[true, true, true, true, true, true, true, false, false, false, false, false, false, false, false, false] HT_ ?_
    refine pureS (i := 7) (N := (some 42)) #[true, true, true, true, true, true, true, true, false, false, false, false, false, false, false, false] HT_ ?_
    refine pureS (i := 8) (N := (some 43)) #[true, true, true, true, true, true, true, true, true, false, false, false, false, false, false, false] HT_ ?_
    refine take_ (i := 9) (N := (some 44)) (v := ?_) (a' := ?_) #[true, true, true, true, true, true, true, true, true, true, false, false, false, false, false, false] rfl rfl (take_ofW HT_.out HW_.out (by kernel_rfl)) (fun _ _ _ h => h) (Or.inl ⟨by rfl, ?_⟩) hHeld ?_ ?_
    rotate_left
    ·rintro w' ⟨s0, s1⟩
     refine Eq.trans (load32_run (x := y) (v := (.slice Ae y.f2.length ce)) _ (p := .tmp 43) ?ho_ ?hp_ s0) ?hr_
     case ho_ => rfl
     case hp_ => rfl
     case hr_ => rfl
    rotate_left
    ·simp only [Act.put, List.setIfInBounds_toArray, List.set_cons_zero, List.set_cons_succ, i64_w, i32_w]
     rfl
    refine take_ (i := 10) (N := (some 45)) (v := ?_) (a' := ?_) #[true, true, true, true, true, true, true, true, true, true, true, false, false, false, false, false] rfl rfl (take_ofW HT_.out HW_.out (by kernel_rfl)) (fun _ _ _ h => h) (Or.inl ⟨by rfl, ?_⟩) hHeld ?_ ?_
    rotate_left
    ·rintro w' ⟨s0, s1⟩
     refine Eq.trans (load32_run (x := x) (v := (.slice A3 x.f2.length c3)) _ (p := .tmp 4) ?ho_ ?hp_ (blk_cells s1)) ?hr_
     case ho_ => rfl
     case hp_ => rfl
     case hr_ => rfl
    rotate_left
    ·simp only [Act.put, List.setIfInBounds_toArray, List.set_cons_zero, List.set_cons_succ, i64_w, i32_w]
     rfl
    refine one_ (i := 11) (N := (some 46)) #[true, true, true, true, true, true, true, true, true, true, true, true, false, false, false, false] rfl rfl (one_of HT_.out (by kernel_rfl)) (by decide) (fun K hK => ?_)
    refine goesF_ Try.func42 (by kernel_rfl) rfl #[(.agg #[.int .i64 y.f0.f0, .int .i64 y.f0.f1, .int .i64 y.f1, (.slice Ae y.f2.length ce), .int .i64 y.f3, .int .i64 y.f4.f0, .int .i64 y.f4.f1, .int .i64 y.f5.f0, .int .i64 y.f5.f1, .int .i64 y.f6.f0, .int .i64 y.f6.f1, .string y.f7, .string y.f8]), (.agg #[.int .i64 x.f0.f0, .int .i64 x.f0.f1, .int .i64 x.f1, (.slice A3 x.f2.length c3), .int .i64 x.f3, .int .i64 x.f4.f0, .int .i64 x.f4.f1, .int .i64 x.f5.f0, .int .i64 x.f5.f1, .int .i64 x.f6.f0, .int .i64 x.f6.f1, .string x.f7, .string x.f8])] (by rfl) rfl (p := .tmp 40) rfl rfl (by (try simp only [List.map_toArray, List.map_cons, List.map_nil]); first | done | rfl) ?_
    refine (causal_compare.calls y.f0.f0 y.f0.f1 y.f1 Ae ce y.f2 y.f3 y.f4.f0 y.f4.f1 y.f5.f0 y.f5.f1 y.f6.f0 y.f6.f1 y.f7 y.f8 x.f0.f0 x.f0.f1 x.f1 A3 c3 x.f2 x.f3 x.f4.f0 x.f4.f1 x.f5.f0 x.f5.f1 x.f6.f0 x.f6.f1 x.f7 x.f8 r _ HCE.out HLE.out HCX.out HX3.out HCMP.out).mono ?_
    rintro e w5 ⟨rfl, hb5⟩
    refine ⟨_, rfl, ?_⟩
    have hS6 : (fun w' => (∀ j u, (chL y (.slice Ae y.f2.length ce))[j]? = some u → w'.cell? ((⟨gr, m * 13, none⟩ : Addr).add j) = some u) ∧ w'.heap[gb]? = some (.cells (chA x (.slice A3 x.f2.length c3)) 32 (0, 0))) w5 := ⟨fun j u hj => (World.cell?_of_block (hb5.block _ (World.block_lt_of_cell? _ _ (hHeld.1 j u hj)))).trans (hHeld.1 j u hj), blk_below hHeld.2 hb5⟩
    have HB5 := Aside0.mk hb5
    clear hb5
    refine hK.out _ _ (hS6) (fun hHeld => ?_)
    clear hK K
    refine norm_ (a' := ?_) ?_ ?_
    rotate_left
    ·show Act.put _ (some 46) _ = _
     simp only [Act.put, List.setIfInBounds_toArray, List.set_cons_zero, List.set_cons_succ, i64_w, i32_w]
     rfl
    refine pureS (i := 12) (N := (some 47)) #[true, true, true, true, true, true, true, true, true, true, true, true, true, false, false, false] HT_ ?_
    refine pureS (i := 13) (N := (some 48)) #[true, true, true, true, true, true, true, true, true, true, true, true, true, true, false, false] HT_ ?_
    refine pureS (i := 14) (N := (some 6)) #[true, true, true, true, true, true, true, true, true, true, true, true, true, true, true, false] HT_ ?_
    refine pureS (i := 15) (N := (some 7)) #[true, true, true, true, true, true, true, true, true, true, true, true, true, true, true, true] HT_ ?_
    refine done_ (done_of HT_.out (by kernel_rfl)) ?_
    go_wp2_with (fail)
    go_ret2
    exact SearchPost.mk HCN.out _ rfl (HBW.out.trans (HB5.out.mono HBW.out.size))
   ·have b4 : decide (lo < l.length) = false := decide_eq_false hln
    clear hln
    go_wp2_with (fail)
    refine start_ (n := 16) (S := (fun _ => True)) (ds := []) #[false, false, false, false, false, false, false, false, false, false, false, false, false, false, false, false] (by kernel_rfl) rfl rfl (trivial) (fun hHeld => ?_)
    refine with_tabW seab.tab8 seab.bits8 (fun HT_ HW_ => ?_)
    refine pureS (i := 0) (N := (some 35)) #[true, false, false, false, false, false, false, false, false, false, false, false, false, false, false, false] HT_ ?_
    refine pureS (i := 1) (N := (some 36)) #[true, true, false, false, false, false, false, false, false, false, false, false, false, false, false, false] HT_ ?_
    refine pureS (i := 2) (N := (some 37)) #[true, true, true, false, false, false, false, false, false, false, false, false, false, false, false, false] HT_ ?_
    refine pureS (i := 3) (N := (some 38)) #[true, true, true, true, false, false, false, false, false, false, false, false, false, false, false, false] HT_ ?_
    refine pureS (i := 4) (N := (some 39)) #[true, true, true, true, true, false, false, false, false, false, false, false, false, false, false, false] HT_ ?_
    refine pure_ (i := 5) (N := (some 40)) (v := undef) (a' := ?_) #[true, true, true, true, true, true, false, false, false, false, false, false, false, false, false, false] rfl rfl (any_of HT_.out (by kernel_rfl)) (fun _ _ _ h => h) (Or.inr ⟨by rfl, rfl⟩) ?_ ?_
    rotate_left
    ·simp only [Act.put, List.setIfInBounds_toArray, List.set_cons_zero, List.set_cons_succ, i64_w, i32_w]
     rfl
    refine pure_ (i := 6) (N := (some 41)) (v := undef) (a' := ?_) #[true, true, true, true, true, true, true, false, false, false, false, false, false, false, false, false] rfl rfl (any_of HT_.out (by kernel_rfl)) (fun _ _ _ h => h) (Or.inr ⟨by rfl, rfl⟩) ?_ ?_
    rotate_left
    ·simp only [Act.put, List.setIfInBounds_toArray, List.set_cons_zero, List.set_cons_succ, i64_w, i32_w]
     rfl
    refine pure_ (i := 7) (N := (some 42)) (v := undef) (a' := ?_) #[true, true, true, true, true, true, true, true, false, false, false, false, false, false, false, false] rfl rfl (any_of HT_.out (by kernel_rfl)) (fun _ _ _ h => h) (Or.inr ⟨by rfl, rfl⟩) ?_ ?_
    rotate_left
    ·simp only [Act.put, List.setIfInBounds_toArray, List.set_cons_zero, List.set_cons_succ, i64_w, i32_w]
     rfl
    refine pure_ (i := 8) (N := (some 43)) (v := undef) (a' := ?_) #[true, true, true, true, true, true, true, true, true, false, false, false, false, false, false, false] rfl rfl (any_of HT_.out (by kernel_rfl)) (fun _ _ _ h => h) (Or.inr ⟨by rfl, rfl⟩) ?_ ?_
    rotate_left
    ·simp only [Act.put, List.setIfInBounds_toArray, List.set_cons_zero, List.set_cons_succ, i64_w, i32_w]
     rfl
    refine pure_ (i := 9) (N := (some 44)) (v := undef) (a' := ?_) #[true, true, true, true, true, true, true, true, true, true, false, false, false, false, false, false] rfl rfl (any_of HT_.out (by kernel_rfl)) (fun _ _ _ h => h) (Or.inr ⟨by rfl, rfl⟩) ?_ ?_
    rotate_left
    ·simp only [Act.put, List.setIfInBounds_toArray, List.set_cons_zero, List.set_cons_succ, i64_w, i32_w]
     rfl
    refine pure_ (i := 10) (N := (some 45)) (v := undef) (a' := ?_) #[true, true, true, true, true, true, true, true, true, true, true, false, false, false, false, false] rfl rfl (any_of HT_.out (by kernel_rfl)) (fun _ _ _ h => h) (Or.inr ⟨by rfl, rfl⟩) ?_ ?_
    rotate_left
    ·simp only [Act.put, List.setIfInBounds_toArray, List.set_cons_zero, List.set_cons_succ, i64_w, i32_w]
     rfl
    refine pure_ (i := 11) (N := (some 46)) (v := undef) (a' := ?_) #[true, true, true, true, true, true, true, true, true, true, true, true, false, false, false, false] rfl rfl (any_of HT_.out (by kernel_rfl)) (fun _ _ _ h => h) (Or.inr ⟨by rfl, rfl⟩) ?_ ?_
    rotate_left
    ·simp only [Act.put, List.setIfInBounds_toArray, List.set_cons_zero, List.set_cons_succ, i64_w, i32_w]
     rfl
    refine pure_ (i := 12) (N := (some 47)) (v := undef) (a' := ?_) #[true, true, true, true, true, true, true, true, true, true, true, true, true, false, false, false] rfl rfl (any_of HT_.out (by kernel_rfl)) (fun _ _ _ h => h) (Or.inr ⟨by rfl, rfl⟩) ?_ ?_
    rotate_left
    ·simp only [Act.put, List.setIfInBounds_toArray, List.set_cons_zero, List.set_cons_succ, i64_w, i32_w]
     rfl
    refine pureS (i := 13) (N := (some 48)) #[true, true, true, true, true, true, true, true, true, true, true, true, true, true, false, false] HT_ ?_
    refine pureS (i := 14) (N := (some 6)) #[true, true, true, true, true, true, true, true, true, true, true, true, true, true, true, false] HT_ ?_
    refine pureS (i := 15) (N := (some 7)) #[true, true, true, true, true, true, true, true, true, true, true, true, true, true, true, true] HT_ ?_
    refine done_ (done_of HT_.out (by kernel_rfl)) ?_
    go_wp2_with (fail)
    go_ret2
    exact SearchPost.mk HCN.out _ rfl (below_drew (HBgb.out.trans (HBL.out.mono HBgb.out.size)))
def tka.T7 : Bool × List (List Nat × List Nat) := (true, [([], []), ([0], [0]), ([], []), ([], []), ([3], [3]), ([4], [4]), ([2, 5], [2, 5]), ([1, 6], [1, 6]), ([7, 6], [7]), ([8], [8]), ([9, 8], [8, 9]), ([10, 8, 8], [8, 10]), ([11], [11]), ([12, 11], [11, 12]), ([13, 11], [11, 13]), ([14, 11], [11, 14]), ([11], [11]), ([16, 11, 11], [11, 16]), ([15, 17, 11], [11, 15, 17]), ([18, 11], [11, 18]), ([11, 19, 8], [8, 11, 19]), ([8, 20], [8, 20])])
def tka.B7 : List Nat := [0, 1, 0, 0, 8, 24, 60, 127, 255, 511, 1023, 2047, 4095, 8191, 16383, 32767, 4095, 69631, 262143, 524287, 1048575, 2097151]
theorem tka.tab7 : rtab .any (opsOf Try.f13 7) = tka.T7 := by kernel_rfl
theorem tka.bits7 : waitsOk tka.T7.2 tka.B7 = true := by kernel_rfl
def tkb.T13 : Bool × List (List Nat × List Nat) := (true, [([], []), ([0], [0]), ([1], [1]), ([2], [2]), ([], []), ([3, 4], [3, 4]), ([5], [5]), ([6], [6]), ([6], [6]), ([7, 5, 0, 1, 2, 3, 4, 5, 6, 7], [7]), ([8, 9, 0, 1, 2, 3, 4, 5, 6, 7, 8, 9], [8])])
def tkb.B13 : List Nat := [0, 1, 3, 7, 0, 31, 63, 127, 127, 255, 1023]
theorem tkb.tab13 : rtab .any (opsOf Try.f13 13) = tkb.T13 := by kernel_rfl
theorem tkb.bits13 : waitsOk tkb.T13.2 tkb.B13 = true := by kernel_rfl
def tkc.T14 : Bool × List (List Nat × List Nat) := (true, [([], []), ([], []), ([1], [1]), ([2], [2]), ([3], [3]), ([], []), ([], []), ([6], [6]), ([7], [7]), ([4, 5, 8, 7], [4, 5, 8]), ([0, 0, 1, 2, 3, 4, 5, 6, 7, 8, 9], [0]), ([10, 0, 1, 2, 3, 4, 5, 6, 7, 8, 9], [10]), ([11, 9, 9, 0, 1, 2, 3, 4, 5, 6, 7, 8, 9], [9, 11])])
def tkc.B14 : List Nat := [0, 0, 2, 6, 14, 0, 0, 64, 192, 510, 1023, 2047, 4095]
theorem tkc.tab14 : rtab .any (opsOf Try.f13 14) = tkc.T14 := by kernel_rfl
theorem tkc.bits14 : waitsOk tkc.T14.2 tkc.B14 = true := by kernel_rfl
def tkd.T15 : Bool × List (List Nat × List Nat) := (true, [([], []), ([0], [0]), ([1], [1]), ([2], [2]), ([], []), ([4], [4]), ([3, 5], [3, 5]), ([6], [6]), ([3, 5, 5, 0, 1, 2, 3, 4, 5], [3, 5]), ([8], [8]), ([3, 9, 7, 8, 0, 1, 2, 3, 4, 5, 6, 7, 8, 9], [3, 7, 9])])
def tkd.B15 : List Nat := [0, 1, 3, 7, 0, 16, 63, 127, 63, 319, 1023]
theorem tkd.tab15 : rtab .any (opsOf Try.f13 15) = tkd.T15 := by kernel_rfl
theorem tkd.bits15 : waitsOk tkd.T15.2 tkd.B15 = true := by kernel_rfl
def ownX (l : List S32) (x : S32) : Bool := decide (keyOf x ∈ l.map keyOf)
/-- Take: what is held behind it, what comes, the error. -/
def takeF (room : Int) (l : List S32) (known : List Int) (x : S32) : List S32 × List S32 × Int :=
 if chkC known = 0 then (if checkX x = 0 then (if (withinX known x || ownX l x) = true then (l, [], 5) else if ripeC known x = true then ((relF l.length (tickC known x.f0.f1).1 [x] l).2, (relF l.length (tickC known x.f0.f1).1 [x] l).1, 0) else if room ≤ l.length then (l, [], 6) else (l.take (cntX x l) ++ x :: l.drop (cntX x l), [], 0)) else (l, [], checkX x)) else (l, [], chkC known)
def TakeB (w : World) (base : Nat) (P : Nat → Prop) (g : Nat) (room : Int) (r : List S32 × List S32 × Int) (e : Ending) (w' : World) : Prop :=
 ∃ (P' O : Nat → Prop) (v' : Value), e = .returned (.tuple #[v', .int .i64 r.2.2]) ∧ BufI w' base P' g room r.1 ∧ Kd.S k32 32 w' base O v' r.2.1 ∧ (∀ k, P' k → P k ∨ w.heap.size ≤ k) ∧ (∀ k, O k → ¬ P' k) ∧ (∀ k, O k → P k ∨ w.heap.size ≤ k) ∧ Kept w w' P
theorem TakeB.err {w w' : World} {base : Nat} {P : Nat → Prop} {g : Nat} {room : Int} {l : List S32} {c : Int} (h : BufI w base P g room l) (hb : Below w.heap.size w w') : TakeB w base P g room (l, [], c) (.returned (.tuple #[.slice none 0 0, .int .i64 c])) w' :=
 ⟨P, fun _ => False, .slice none 0 0, rfl, h.below hb, Kd.S_nil _ _ _ _ _, fun _ hk => .inl hk, fun _ hk => hk.elim, fun _ hk => hk.elim, Kept.of_below hb _⟩
set_option maxHeartbeats 8000000 in
set_option maxRecDepth 100000 in
theorem take_chk {w : World} {base : Nat} {P : Nat → Prop} {g : Nat} {room : Int} {l : List S32} (hB : BufI w base P g room l) (A0 : Option Addr) (c0 : Nat) (known : List Int) (hk : Kd.C (Kd.int .i64) w A0 known.length known) (hkc : known.length ≤ c0)
  (x : S32) (A3 : Option Addr) (c3 : Nat) (hx : Kd.C (Kd.int .i64) w A3 x.f2.length x.f2) (hx3 : x.f2.length ≤ c3) (hc : chkC known ≠ 0) (p : Option Addr) :
  Calls Try.prog 13 #[.pointer p, .slice A0 known.length c0, (.agg #[.int .i64 x.f0.f0, .int .i64 x.f0.f1, .int .i64 x.f1, (.slice A3 x.f2.length c3), .int .i64 x.f3, .int .i64 x.f4.f0, .int .i64 x.f4.f1, .int .i64 x.f5.f0, .int .i64 x.f5.f1, .int .i64 x.f6.f0, .int .i64 x.f6.f1, .string x.f7, .string x.f8])] w (TakeB w base P g room (l, [], chkC known)) := by
 have HBUF := Aside0.mk hB
 have HK := Aside0.mk hk
 have HKC := Aside0.mk hkc
 have HCK := Aside0.mk (clock_Check_is known 66 (by decide))
 clear hB hk hkc hx hx3
 generalize chkC known = cc at *
 have e1 : (cc != 0) = true := by rw [bne_iff_ne]; exact hc
 clear hc
 go_enter Try.func13, Try.ntmps13
 go_wp2_with (first | ((with_reducible refine gate_dst (N := 5) rfl ?_); refine box_event ?hg (N := 5) ?hd (cs := #[.int .i64 x.f0.f0, .int .i64 x.f0.f1, .int .i64 x.f1, (.slice A3 x.f2.length c3), .int .i64 x.f3, .int .i64 x.f4.f0, .int .i64 x.f4.f1, .int .i64 x.f5.f0, .int .i64 x.f5.f1, .int .i64 x.f6.f0, .int .i64 x.f6.f1, .string x.f7, .string x.f8]) (t := 32) ?hr ?_; (case hd => rfl); (case hg => rfl); (case hr => first | (go_simp; done) | (go_simp; rfl)); intro gb hr_ w0 hbox hb; have HXgb := Aside0.mk hbox; have HBgb := Aside0.mk hb; have HNgb := Aside0.mk (Nat.le_of_eq hr_.symm); clear hbox hb hr_) | (go_at_call 33; (with_reducible refine (clock_Check.calls 66 A0 c0 known _ _ (Kd.C_below HK.out HBgb.out) HKC.out HCK.out).mono ?_); rintro e w1 ⟨rfl, ⟨nd, hnd⟩⟩; have HB1 := Aside0.mk (show Below w.heap.size w w1 by rw [hnd]; exact pw_below_drewN HBgb.out nd); have HX1 := Aside0.mk (show w1.heap[gb]? = some (.cells (chA x (.slice A3 x.f2.length c3)) 32 (0, 0)) by rw [hnd]; exact HXgb.out); clear hnd nd))
 go_ret2
 exact TakeB.err HBUF.out HB1.out
set_option maxHeartbeats 8000000 in
set_option maxRecDepth 100000 in
theorem take_bad {w : World} {base : Nat} {P : Nat → Prop} {g : Nat} {room : Int} {l : List S32} (hB : BufI w base P g room l) (A0 : Option Addr) (c0 : Nat) (known : List Int) (hk : Kd.C (Kd.int .i64) w A0 known.length known) (hkc : known.length ≤ c0)
  (x : S32) (A3 : Option Addr) (c3 : Nat) (hx : Kd.C (Kd.int .i64) w A3 x.f2.length x.f2) (hx3 : x.f2.length ≤ c3) (hs : x.f7.size < 4611686018427387904) (hc : chkC known = 0) (hc2 : checkX x ≠ 0) (p : Option Addr) :
  Calls Try.prog 13 #[.pointer p, .slice A0 known.length c0, (.agg #[.int .i64 x.f0.f0, .int .i64 x.f0.f1, .int .i64 x.f1, (.slice A3 x.f2.length c3), .int .i64 x.f3, .int .i64 x.f4.f0, .int .i64 x.f4.f1, .int .i64 x.f5.f0, .int .i64 x.f5.f1, .int .i64 x.f6.f0, .int .i64 x.f6.f1, .string x.f7, .string x.f8])] w (TakeB w base P g room (l, [], checkX x)) := by
 have HBUF := Aside0.mk hB
 have HK := Aside0.mk hk
 have HKC := Aside0.mk hkc
 have HC3 := Aside0.mk hx
 have HL3 := Aside0.mk hx3
 have HCK := Aside0.mk (clock_Check_is known 66 (by decide))
 rw [hc] at HCK
 have HCE := Aside0.mk (change_Check_is (x.f7.size + 200) x.f0.f0 x.f0.f1 x.f1 x.f2 x.f3 x.f4.f0 x.f4.f1 x.f5.f0 x.f5.f1 x.f6.f0 x.f6.f1 x.f7 x.f8 hs (by omega) (by omega))
 rw [show checkC x.f0.f0 x.f0.f1 x.f1 x.f2 x.f3 x.f4.f0 x.f4.f1 x.f5.f0 x.f5.f1 x.f6.f0 x.f6.f1 x.f7 x.f8 = checkX x from rfl] at HCE
 clear hB hk hkc hx hx3 hs hc
 generalize checkX x = cc at *
 have e1 : (cc != 0) = true := by rw [bne_iff_ne]; exact hc2
 clear hc2
 go_enter Try.func13, Try.ntmps13
 go_wp2_with (first | ((with_reducible refine gate_dst (N := 5) rfl ?_); refine box_event ?hg (N := 5) ?hd (cs := #[.int .i64 x.f0.f0, .int .i64 x.f0.f1, .int .i64 x.f1, (.slice A3 x.f2.length c3), .int .i64 x.f3, .int .i64 x.f4.f0, .int .i64 x.f4.f1, .int .i64 x.f5.f0, .int .i64 x.f5.f1, .int .i64 x.f6.f0, .int .i64 x.f6.f1, .string x.f7, .string x.f8]) (t := 32) ?hr ?_; (case hd => rfl); (case hg => rfl); (case hr => first | (go_simp; done) | (go_simp; rfl)); intro gb hr_ w0 hbox hb; have HXgb := Aside0.mk hbox; have HBgb := Aside0.mk hb; have HNgb := Aside0.mk (Nat.le_of_eq hr_.symm); clear hbox hb hr_) | (go_at_call 33; (with_reducible refine (clock_Check.calls 66 A0 c0 known _ _ (Kd.C_below HK.out HBgb.out) HKC.out HCK.out).mono ?_); rintro e w1 ⟨rfl, ⟨nd, hnd⟩⟩; have HB1 := Aside0.mk (show Below w.heap.size w w1 by rw [hnd]; exact pw_below_drewN HBgb.out nd); have HX1 := Aside0.mk (show w1.heap[gb]? = some (.cells (chA x (.slice A3 x.f2.length c3)) 32 (0, 0)) by rw [hnd]; exact HXgb.out); clear hnd nd) | ((with_reducible refine gate_dst (N := 17) rfl ?_); refine load32_ev rfl (N := 17) rfl x (.slice A3 x.f2.length c3) (p := .tmp 5) rfl (ad := ⟨gb, 0, none⟩) rfl (blk_cells HX1.out) ?_) | (go_at_call 34; (with_reducible refine (change_Check.calls (x.f7.size + 200) x.f0.f0 x.f0.f1 x.f1 A3 c3 x.f2 x.f3 x.f4.f0 x.f4.f1 x.f5.f0 x.f5.f1 x.f6.f0 x.f6.f1 x.f7 x.f8 _ _ (Kd.C_below HC3.out HB1.out) HL3.out HCE.out).mono ?_); rintro e w2 ⟨rfl, hb2⟩; have HB2 := Aside0.mk (HB1.out.trans (hb2.mono HB1.out.size)); have HX2 := Aside0.mk (blk_below HX1.out hb2); clear hb2))
 go_ret2
 exact TakeB.err HBUF.out HB2.out
set_option maxHeartbeats 8000000 in
set_option maxRecDepth 100000 in
theorem take_within {w : World} {base : Nat} {P : Nat → Prop} {g : Nat} {room : Int} {l : List S32} (hB : BufI w base P g room l) (A0 : Option Addr) (c0 : Nat) (known : List Int) (hk : Kd.C (Kd.int .i64) w A0 known.length known) (hkc : known.length ≤ c0)
  (x : S32) (A3 : Option Addr) (c3 : Nat) (hx : Kd.C (Kd.int .i64) w A3 x.f2.length x.f2) (hx3 : x.f2.length ≤ c3) (hs : x.f7.size < 4611686018427387904) (hc : chkC known = 0) (hc2 : checkX x = 0) (hw : withinX known x = true) :
  Calls Try.prog 13 #[.pointer (some ⟨g, 0, none⟩), .slice A0 known.length c0, (.agg #[.int .i64 x.f0.f0, .int .i64 x.f0.f1, .int .i64 x.f1, (.slice A3 x.f2.length c3), .int .i64 x.f3, .int .i64 x.f4.f0, .int .i64 x.f4.f1, .int .i64 x.f5.f0, .int .i64 x.f5.f1, .int .i64 x.f6.f0, .int .i64 x.f6.f1, .string x.f7, .string x.f8])] w (TakeB w base P g room (l, [], 5)) := by
 have HBUF := Aside0.mk hB
 have HK := Aside0.mk hk
 have HKC := Aside0.mk hkc
 have HC3 := Aside0.mk hx
 have HL3 := Aside0.mk hx3
 have HCK := Aside0.mk (clock_Check_is known 66 (by decide))
 rw [hc] at HCK
 have HCE := Aside0.mk (change_Check_is (x.f7.size + 200) x.f0.f0 x.f0.f1 x.f1 x.f2 x.f3 x.f4.f0 x.f4.f1 x.f5.f0 x.f5.f1 x.f6.f0 x.f6.f1 x.f7 x.f8 hs (by omega) (by omega))
 rw [show checkC x.f0.f0 x.f0.f1 x.f1 x.f2 x.f3 x.f4.f0 x.f4.f1 x.f5.f0 x.f5.f1 x.f6.f0 x.f6.f1 x.f7 x.f8 = checkX x from rfl, hc2] at HCE
 have HX64 := Aside0.mk (check_ok hc2)
 have HCH := Aside0.mk hc
 obtain ⟨at_, hat_⟩ : ∃ a, atC known x.f0.f1 = a := ⟨_, rfl⟩
 have HAT := Aside0.mk (clock_At_is known x.f0.f1)
 rw [hat_] at HAT
 have hwx : withinX known x = decide (x.f1 ≤ at_) := by unfold withinX; rw [hat_]
 clear hat_

 rw [hw] at hwx
 have d1 : decide (x.f1 ≤ at_) = true := hwx.symm
 clear hB hk hkc hx hx3 hs hc hc2 hw hwx
 obtain ⟨mb, es, cc, A, ch, hO⟩ := HBUF.out.opened
 have HO := Aside0.mk hO
 clear hO

 go_enter Try.func13, Try.ntmps13
 go_wp2_with (first | ((with_reducible refine gate_dst (N := 5) rfl ?_); refine box_event ?hg (N := 5) ?hd (cs := #[.int .i64 x.f0.f0, .int .i64 x.f0.f1, .int .i64 x.f1, (.slice A3 x.f2.length c3), .int .i64 x.f3, .int .i64 x.f4.f0, .int .i64 x.f4.f1, .int .i64 x.f5.f0, .int .i64 x.f5.f1, .int .i64 x.f6.f0, .int .i64 x.f6.f1, .string x.f7, .string x.f8]) (t := 32) ?hr ?_; (case hd => rfl); (case hg => rfl); (case hr => first | (go_simp; done) | (go_simp; rfl)); intro gb hr_ w0 hbox hb; have HXgb := Aside0.mk hbox; have HBgb := Aside0.mk hb; have HNgb := Aside0.mk (Nat.le_of_eq hr_.symm); clear hbox hb hr_) | (go_at_call 33; (with_reducible refine (clock_Check.calls 66 A0 c0 known _ _ (Kd.C_below HK.out HBgb.out) HKC.out HCK.out).mono ?_); rintro e w1 ⟨rfl, ⟨nd, hnd⟩⟩; have HB1 := Aside0.mk (show Below w.heap.size w w1 by rw [hnd]; exact pw_below_drewN HBgb.out nd); have HX1 := Aside0.mk (show w1.heap[gb]? = some (.cells (chA x (.slice A3 x.f2.length c3)) 32 (0, 0)) by rw [hnd]; exact HXgb.out); clear hnd nd) | ((with_reducible refine gate_dst (N := 17) rfl ?_); refine load32_ev rfl (N := 17) rfl x (.slice A3 x.f2.length c3) (p := .tmp 5) rfl (ad := ⟨gb, 0, none⟩) rfl (blk_cells HX1.out) ?_) | (go_at_call 34; (with_reducible refine (change_Check.calls (x.f7.size + 200) x.f0.f0 x.f0.f1 x.f1 A3 c3 x.f2 x.f3 x.f4.f0 x.f4.f1 x.f5.f0 x.f5.f1 x.f6.f0 x.f6.f1 x.f7 x.f8 _ _ (Kd.C_below HC3.out HB1.out) HL3.out HCE.out).mono ?_); rintro e w2 ⟨rfl, hb2⟩; have HB2 := Aside0.mk (HB1.out.trans (hb2.mono HB1.out.size)); have HX2 := Aside0.mk (blk_below HX1.out hb2); clear hb2))

 refine start_ (n := 22) (S := (fun w' => w'.heap[gb]? = some (.cells (chA x (.slice A3 x.f2.length c3)) 32 (0, 0)) ∧ w'.cell? ⟨g, 2, none⟩ = some (.map (some mb)) ∧ w'.heap[mb]? = some (.map (es.map entE).toArray cc))) (ds := []) #[false, false, false, false, false, false, false, false, false, false, false, false, false, false, false, false, false, false, false, false, false, false] (by kernel_rfl) rfl rfl (⟨HX2.out, (blk_cell (blk_below HO.out.blk HB2.out) 2).trans rfl, blk_below HO.out.map (below_drew HB2.out)⟩) (fun hHeld => ?_)
 refine with_tabW tka.tab7 tka.bits7 (fun HT_ HW_ => ?_)
 refine pureS (i := 0) (N := (some 22)) #[true, false, false, false, false, false, false, false, false, false, false, false, false, false, false, false, false, false, false, false, false, false] HT_ ?_
 refine pureS (i := 2) (N := (some 24)) #[true, false, true, false, false, false, false, false, false, false, false, false, false, false, false, false, false, false, false, false, false, false] HT_ ?_
 refine pureS (i := 3) (N := (some 25)) #[true, false, true, true, false, false, false, false, false, false, false, false, false, false, false, false, false, false, false, false, false, false] HT_ ?_
 refine pureS (i := 4) (N := (some 26)) #[true, false, true, true, true, false, false, false, false, false, false, false, false, false, false, false, false, false, false, false, false, false] HT_ ?_
 refine take_ (i := 1) (N := (some 23)) (v := ?_) (a' := ?_) #[true, true, true, true, true, false, false, false, false, false, false, false, false, false, false, false, false, false, false, false, false, false] rfl rfl (take_ofW HT_.out HW_.out (by kernel_rfl)) (fun _ _ _ h => h) (Or.inl ⟨by rfl, ?_⟩) hHeld ?_ ?_
 rotate_left
 ·rintro w' ⟨s0, s1, s2⟩; have f1 : w'.cell? ⟨gb, 2, none⟩ = some (.int .i64 x.f1) := (blk_cell s0 2).trans rfl; have f2 : w'.cell? ⟨gb, 1, none⟩ = some (.int .i64 x.f0.f1) := (blk_cell s0 1).trans rfl
  go_simp
  with_reducible rfl
 rotate_left
 ·simp only [Act.put, List.setIfInBounds_toArray, List.set_cons_zero, List.set_cons_succ, i64_w, i32_w]
  rfl
 refine take_ (i := 5) (N := (some 27)) (v := ?_) (a' := ?_) #[true, true, true, true, true, true, false, false, false, false, false, false, false, false, false, false, false, false, false, false, false, false] rfl rfl (take_ofW HT_.out HW_.out (by kernel_rfl)) (fun _ _ _ h => h) (Or.inl ⟨by rfl, ?_⟩) hHeld ?_ ?_
 rotate_left
 ·rintro w' ⟨s0, s1, s2⟩; have f1 : w'.cell? ⟨gb, 2, none⟩ = some (.int .i64 x.f1) := (blk_cell s0 2).trans rfl; have f2 : w'.cell? ⟨gb, 1, none⟩ = some (.int .i64 x.f0.f1) := (blk_cell s0 1).trans rfl
  go_simp
  with_reducible rfl
 rotate_left
 ·simp only [Act.put, List.setIfInBounds_toArray, List.set_cons_zero, List.set_cons_succ, i64_w, i32_w]
  rfl
 refine one_ (i := 6) (N := (some 28)) #[true, true, true, true, true, true, true, false, false, false, false, false, false, false, false, false, false, false, false, false, false, false] rfl rfl (one_of HT_.out (by kernel_rfl)) (by decide) (fun K hK => ?_)
 refine goes_ Try.func35 (by kernel_rfl) rfl #[.slice A0 known.length c0, .int .i64 x.f0.f1] (by rfl) rfl rfl (by (try simp only [List.map_toArray, List.map_cons, List.map_nil]); first | done | rfl) ?_
 refine (clock_At.calls A0 c0 known x.f0.f1 _ _ (Kd.C_drew (Kd.C_below HK.out HB2.out)) HKC.out HAT.out).mono ?_
 rintro e w3 ⟨rfl, ⟨nd2, hnd2⟩⟩
 refine ⟨_, rfl, ?_⟩
 have HB3 := Aside0.mk (show Below w.heap.size w w3 by rw [hnd2]; exact pw_below_drewN (below_drew HB2.out) nd2)
 have hS3 : (fun w' => w'.heap[gb]? = some (.cells (chA x (.slice A3 x.f2.length c3)) 32 (0, 0)) ∧ w'.cell? ⟨g, 2, none⟩ = some (.map (some mb)) ∧ w'.heap[mb]? = some (.map (es.map entE).toArray cc)) w3 := by rw [hnd2]; exact ⟨hHeld.1, hHeld.2.1, hHeld.2.2⟩
 clear hnd2
 refine hK.out _ _ (hS3) (fun hHeld => ?_)
 clear hK K
 refine norm_ (a' := ?_) ?_ ?_
 rotate_left
 ·show Act.put _ (some 28) _ = _
  simp only [Act.put, List.setIfInBounds_toArray, List.set_cons_zero, List.set_cons_succ, i64_w, i32_w]
  rfl
 refine pureS (i := 7) (N := (some 29)) #[true, true, true, true, true, true, true, true, false, false, false, false, false, false, false, false, false, false, false, false, false, false] HT_ ?_
 refine pureS (i := 8) (N := (some 30)) #[true, true, true, true, true, true, true, true, true, false, false, false, false, false, false, false, false, false, false, false, false, false] HT_ ?_
 refine pure_ (i := 9) (N := (some 31)) (v := undef) (a' := ?_) #[true, true, true, true, true, true, true, true, true, true, false, false, false, false, false, false, false, false, false, false, false, false] rfl rfl (any_of HT_.out (by kernel_rfl)) (fun _ _ _ h => h) (Or.inr ⟨by rfl, rfl⟩) ?_ ?_
 rotate_left
 ·simp only [Act.put, List.setIfInBounds_toArray, List.set_cons_zero, List.set_cons_succ, i64_w, i32_w]
  rfl
 refine pure_ (i := 10) (N := (some 32)) (v := undef) (a' := ?_) #[true, true, true, true, true, true, true, true, true, true, true, false, false, false, false, false, false, false, false, false, false, false] rfl rfl (any_of HT_.out (by kernel_rfl)) (fun _ _ _ h => h) (Or.inr ⟨by rfl, rfl⟩) ?_ ?_
 rotate_left
 ·simp only [Act.put, List.setIfInBounds_toArray, List.set_cons_zero, List.set_cons_succ, i64_w, i32_w]
  rfl
 refine pure_ (i := 11) (N := (some 33)) (v := undef) (a' := ?_) #[true, true, true, true, true, true, true, true, true, true, true, true, false, false, false, false, false, false, false, false, false, false] rfl rfl (any_of HT_.out (by kernel_rfl)) (fun _ _ _ h => h) (Or.inr ⟨by rfl, rfl⟩) ?_ ?_
 rotate_left
 ·simp only [Act.put, List.setIfInBounds_toArray, List.set_cons_zero, List.set_cons_succ, i64_w, i32_w]
  rfl
 refine pure_ (i := 12) (N := (some 34)) (v := undef) (a' := ?_) #[true, true, true, true, true, true, true, true, true, true, true, true, true, false, false, false, false, false, false, false, false, false] rfl rfl (any_of HT_.out (by kernel_rfl)) (fun _ _ _ h => h) (Or.inr ⟨by rfl, rfl⟩) ?_ ?_
 rotate_left
 ·simp only [Act.put, List.setIfInBounds_toArray, List.set_cons_zero, List.set_cons_succ, i64_w, i32_w]
  rfl
 refine pure_ (i := 13) (N := (some 35)) (v := undef) (a' := ?_) #[true, true, true, true, true, true, true, true, true, true, true, true, true, true, false, false, false, false, false, false, false, false] rfl rfl (any_of HT_.out (by kernel_rfl)) (fun _ _ _ h => h) (Or.inr ⟨by rfl, rfl⟩) ?_ ?_
 rotate_left
 ·simp only [Act.put, List.setIfInBounds_toArray, List.set_cons_zero, List.set_cons_succ, i64_w, i32_w]
  rfl
 refine pure_ (i := 14) (N := (some 36)) (v := undef) (a' := ?_) #[true, true, true, true, true, true, true, true, true, true, true, true, true, true, true, false, false, false, false, false, false, false] rfl rfl (any_of HT_.out (by kernel_rfl)) (fun _ _ _ h => h) (Or.inr ⟨by rfl, rfl⟩) ?_ ?_
 rotate_left
 ·simp only [Act.put, List.setIfInBounds_toArray, List.set_cons_zero, List.set_cons_succ, i64_w, i32_w]
  rfl
 refine pure_ (i := 15) (N := (some 37)) (v := undef) (a' := ?_) #[true, true, true, true, true, true, true, true, true, true, true, true, true, true, true, true, false, false, false, false, false, false] rfl rfl (any_of HT_.out (by kernel_rfl)) (fun _ _ _ h => h) (Or.inr ⟨by rfl, rfl⟩) ?_ ?_
 rotate_left
 ·simp only [Act.put, List.setIfInBounds_toArray, List.set_cons_zero, List.set_cons_succ, i64_w, i32_w]
  rfl
 refine pure_ (i := 16) (N := (some 38)) (v := undef) (a' := ?_) #[true, true, true, true, true, true, true, true, true, true, true, true, true, true, true, true, true, false, false, false, false, false] rfl rfl (any_of HT_.out (by kernel_rfl)) (fun _ _ _ h => h) (Or.inr ⟨by rfl, rfl⟩) ?_ ?_
 rotate_left
 ·simp only [Act.put, List.setIfInBounds_toArray, List.set_cons_zero, List.set_cons_succ, i64_w, i32_w]
  rfl
 refine pure_ (i := 17) (N := (some 39)) (v := undef) (a' := ?_) #[true, true, true, true, true, true, true, true, true, true, true, true, true, true, true, true, true, true, false, false, false, false] rfl rfl (any_of HT_.out (by kernel_rfl)) (fun _ _ _ h => h) (Or.inr ⟨by rfl, rfl⟩) ?_ ?_
 rotate_left
 ·simp only [Act.put, List.setIfInBounds_toArray, List.set_cons_zero, List.set_cons_succ, i64_w, i32_w]
  rfl
 refine pure_ (i := 18) (N := (some 40)) (v := undef) (a' := ?_) #[true, true, true, true, true, true, true, true, true, true, true, true, true, true, true, true, true, true, true, false, false, false] rfl rfl (any_of HT_.out (by kernel_rfl)) (fun _ _ _ h => h) (Or.inr ⟨by rfl, rfl⟩) ?_ ?_
 rotate_left
 ·simp only [Act.put, List.setIfInBounds_toArray, List.set_cons_zero, List.set_cons_succ, i64_w, i32_w]
  rfl
 refine pure_ (i := 19) (N := (some 41)) (v := undef) (a' := ?_) #[true, true, true, true, true, true, true, true, true, true, true, true, true, true, true, true, true, true, true, true, false, false] rfl rfl (any_of HT_.out (by kernel_rfl)) (fun _ _ _ h => h) (Or.inr ⟨by rfl, rfl⟩) ?_ ?_
 rotate_left
 ·simp only [Act.put, List.setIfInBounds_toArray, List.set_cons_zero, List.set_cons_succ, i64_w, i32_w]
  rfl
 refine pure_ (i := 20) (N := (some 42)) (v := undef) (a' := ?_) #[true, true, true, true, true, true, true, true, true, true, true, true, true, true, true, true, true, true, true, true, true, false] rfl rfl (any_of HT_.out (by kernel_rfl)) (fun _ _ _ h => h) (Or.inr ⟨by rfl, rfl⟩) ?_ ?_
 rotate_left
 ·simp only [Act.put, List.setIfInBounds_toArray, List.set_cons_zero, List.set_cons_succ, i64_w, i32_w]
  rfl
 refine pureS (i := 21) (N := (some 43)) #[true, true, true, true, true, true, true, true, true, true, true, true, true, true, true, true, true, true, true, true, true, true] HT_ ?_
 refine done_ (done_of HT_.out (by kernel_rfl)) ?_
 go_wp2_with (fail)
 go_ret2
 exact TakeB.err HBUF.out HB3.out
set_option maxHeartbeats 8000000 in
set_option maxRecDepth 100000 in
theorem take_own {w : World} {base : Nat} {P : Nat → Prop} {g : Nat} {room : Int} {l : List S32} (hB : BufI w base P g room l) (A0 : Option Addr) (c0 : Nat) (known : List Int) (hk : Kd.C (Kd.int .i64) w A0 known.length known) (hkc : known.length ≤ c0)
  (x : S32) (A3 : Option Addr) (c3 : Nat) (hx : Kd.C (Kd.int .i64) w A3 x.f2.length x.f2) (hx3 : x.f2.length ≤ c3) (hs : x.f7.size < 4611686018427387904) (hc : chkC known = 0) (hc2 : checkX x = 0) (hw : withinX known x = false) (ho : ownX l x = true) :
  Calls Try.prog 13 #[.pointer (some ⟨g, 0, none⟩), .slice A0 known.length c0, (.agg #[.int .i64 x.f0.f0, .int .i64 x.f0.f1, .int .i64 x.f1, (.slice A3 x.f2.length c3), .int .i64 x.f3, .int .i64 x.f4.f0, .int .i64 x.f4.f1, .int .i64 x.f5.f0, .int .i64 x.f5.f1, .int .i64 x.f6.f0, .int .i64 x.f6.f1, .string x.f7, .string x.f8])] w (TakeB w base P g room (l, [], 5)) := by
 have HBUF := Aside0.mk hB
 have HK := Aside0.mk hk
 have HKC := Aside0.mk hkc
 have HC3 := Aside0.mk hx
 have HL3 := Aside0.mk hx3
 have HCK := Aside0.mk (clock_Check_is known 66 (by decide))
 rw [hc] at HCK
 have HCE := Aside0.mk (change_Check_is (x.f7.size + 200) x.f0.f0 x.f0.f1 x.f1 x.f2 x.f3 x.f4.f0 x.f4.f1 x.f5.f0 x.f5.f1 x.f6.f0 x.f6.f1 x.f7 x.f8 hs (by omega) (by omega))
 rw [show checkC x.f0.f0 x.f0.f1 x.f1 x.f2 x.f3 x.f4.f0 x.f4.f1 x.f5.f0 x.f5.f1 x.f6.f0 x.f6.f1 x.f7 x.f8 = checkX x from rfl, hc2] at HCE
 have HX64 := Aside0.mk (check_ok hc2)
 have HCH := Aside0.mk hc
 obtain ⟨at_, hat_⟩ : ∃ a, atC known x.f0.f1 = a := ⟨_, rfl⟩
 have HAT := Aside0.mk (clock_At_is known x.f0.f1)
 rw [hat_] at HAT
 have hwx : withinX known x = decide (x.f1 ≤ at_) := by unfold withinX; rw [hat_]
 clear hat_

 rw [hw] at hwx
 have d1 : decide (x.f1 ≤ at_) = false := hwx.symm
 obtain ⟨mb, es, cc, A, ch, hO⟩ := HBUF.out.opened
 have HO := Aside0.mk hO
 clear hO

 have hown : valP es (keyOf x) = .int .i64 1 := by
  rw [HO.out.ok.val, if_pos (of_decide_eq_true ho)]
 have HOWN := Aside0.mk hown
 clear hB hk hkc hx hx3 hs hc hc2 hw hwx ho hown
 go_enter Try.func13, Try.ntmps13
 go_wp2_with (first | ((with_reducible refine gate_dst (N := 5) rfl ?_); refine box_event ?hg (N := 5) ?hd (cs := #[.int .i64 x.f0.f0, .int .i64 x.f0.f1, .int .i64 x.f1, (.slice A3 x.f2.length c3), .int .i64 x.f3, .int .i64 x.f4.f0, .int .i64 x.f4.f1, .int .i64 x.f5.f0, .int .i64 x.f5.f1, .int .i64 x.f6.f0, .int .i64 x.f6.f1, .string x.f7, .string x.f8]) (t := 32) ?hr ?_; (case hd => rfl); (case hg => rfl); (case hr => first | (go_simp; done) | (go_simp; rfl)); intro gb hr_ w0 hbox hb; have HXgb := Aside0.mk hbox; have HBgb := Aside0.mk hb; have HNgb := Aside0.mk (Nat.le_of_eq hr_.symm); clear hbox hb hr_) | (go_at_call 33; (with_reducible refine (clock_Check.calls 66 A0 c0 known _ _ (Kd.C_below HK.out HBgb.out) HKC.out HCK.out).mono ?_); rintro e w1 ⟨rfl, ⟨nd, hnd⟩⟩; have HB1 := Aside0.mk (show Below w.heap.size w w1 by rw [hnd]; exact pw_below_drewN HBgb.out nd); have HX1 := Aside0.mk (show w1.heap[gb]? = some (.cells (chA x (.slice A3 x.f2.length c3)) 32 (0, 0)) by rw [hnd]; exact HXgb.out); clear hnd nd) | ((with_reducible refine gate_dst (N := 17) rfl ?_); refine load32_ev rfl (N := 17) rfl x (.slice A3 x.f2.length c3) (p := .tmp 5) rfl (ad := ⟨gb, 0, none⟩) rfl (blk_cells HX1.out) ?_) | (go_at_call 34; (with_reducible refine (change_Check.calls (x.f7.size + 200) x.f0.f0 x.f0.f1 x.f1 A3 c3 x.f2 x.f3 x.f4.f0 x.f4.f1 x.f5.f0 x.f5.f1 x.f6.f0 x.f6.f1 x.f7 x.f8 _ _ (Kd.C_below HC3.out HB1.out) HL3.out HCE.out).mono ?_); rintro e w2 ⟨rfl, hb2⟩; have HB2 := Aside0.mk (HB1.out.trans (hb2.mono HB1.out.size)); have HX2 := Aside0.mk (blk_below HX1.out hb2); clear hb2))

 refine start_ (n := 22) (S := (fun w' => w'.heap[gb]? = some (.cells (chA x (.slice A3 x.f2.length c3)) 32 (0, 0)) ∧ w'.cell? ⟨g, 2, none⟩ = some (.map (some mb)) ∧ w'.heap[mb]? = some (.map (es.map entE).toArray cc))) (ds := []) #[false, false, false, false, false, false, false, false, false, false, false, false, false, false, false, false, false, false, false, false, false, false] (by kernel_rfl) rfl rfl (⟨HX2.out, (blk_cell (blk_below HO.out.blk HB2.out) 2).trans rfl, blk_below HO.out.map (below_drew HB2.out)⟩) (fun hHeld => ?_)
 refine with_tabW tka.tab7 tka.bits7 (fun HT_ HW_ => ?_)
 refine pureS (i := 0) (N := (some 22)) #[true, false, false, false, false, false, false, false, false, false, false, false, false, false, false, false, false, false, false, false, false, false] HT_ ?_
 refine pureS (i := 2) (N := (some 24)) #[true, false, true, false, false, false, false, false, false, false, false, false, false, false, false, false, false, false, false, false, false, false] HT_ ?_
 refine pureS (i := 3) (N := (some 25)) #[true, false, true, true, false, false, false, false, false, false, false, false, false, false, false, false, false, false, false, false, false, false] HT_ ?_
 refine pureS (i := 4) (N := (some 26)) #[true, false, true, true, true, false, false, false, false, false, false, false, false, false, false, false, false, false, false, false, false, false] HT_ ?_
 refine take_ (i := 1) (N := (some 23)) (v := ?_) (a' := ?_) #[true, true, true, true, true, false, false, false, false, false, false, false, false, false, false, false, false, false, false, false, false, false] rfl rfl (take_ofW HT_.out HW_.out (by kernel_rfl)) (fun _ _ _ h => h) (Or.inl ⟨by rfl, ?_⟩) hHeld ?_ ?_
 rotate_left
 ·rintro w' ⟨s0, s1, s2⟩; have f1 : w'.cell? ⟨gb, 2, none⟩ = some (.int .i64 x.f1) := (blk_cell s0 2).trans rfl; have f2 : w'.cell? ⟨gb, 1, none⟩ = some (.int .i64 x.f0.f1) := (blk_cell s0 1).trans rfl
  go_simp
  with_reducible rfl
 rotate_left
 ·simp only [Act.put, List.setIfInBounds_toArray, List.set_cons_zero, List.set_cons_succ, i64_w, i32_w]
  rfl
 refine take_ (i := 5) (N := (some 27)) (v := ?_) (a' := ?_) #[true, true, true, true, true, true, false, false, false, false, false, false, false, false, false, false, false, false, false, false, false, false] rfl rfl (take_ofW HT_.out HW_.out (by kernel_rfl)) (fun _ _ _ h => h) (Or.inl ⟨by rfl, ?_⟩) hHeld ?_ ?_
 rotate_left
 ·rintro w' ⟨s0, s1, s2⟩; have f1 : w'.cell? ⟨gb, 2, none⟩ = some (.int .i64 x.f1) := (blk_cell s0 2).trans rfl; have f2 : w'.cell? ⟨gb, 1, none⟩ = some (.int .i64 x.f0.f1) := (blk_cell s0 1).trans rfl
  go_simp
  with_reducible rfl
 rotate_left
 ·simp only [Act.put, List.setIfInBounds_toArray, List.set_cons_zero, List.set_cons_succ, i64_w, i32_w]
  rfl
 refine one_ (i := 6) (N := (some 28)) #[true, true, true, true, true, true, true, false, false, false, false, false, false, false, false, false, false, false, false, false, false, false] rfl rfl (one_of HT_.out (by kernel_rfl)) (by decide) (fun K hK => ?_)
 refine goes_ Try.func35 (by kernel_rfl) rfl #[.slice A0 known.length c0, .int .i64 x.f0.f1] (by rfl) rfl rfl (by (try simp only [List.map_toArray, List.map_cons, List.map_nil]); first | done | rfl) ?_
 refine (clock_At.calls A0 c0 known x.f0.f1 _ _ (Kd.C_drew (Kd.C_below HK.out HB2.out)) HKC.out HAT.out).mono ?_
 rintro e w3 ⟨rfl, ⟨nd2, hnd2⟩⟩
 refine ⟨_, rfl, ?_⟩
 have HB3 := Aside0.mk (show Below w.heap.size w w3 by rw [hnd2]; exact pw_below_drewN (below_drew HB2.out) nd2)
 have hS3 : (fun w' => w'.heap[gb]? = some (.cells (chA x (.slice A3 x.f2.length c3)) 32 (0, 0)) ∧ w'.cell? ⟨g, 2, none⟩ = some (.map (some mb)) ∧ w'.heap[mb]? = some (.map (es.map entE).toArray cc)) w3 := by rw [hnd2]; exact ⟨hHeld.1, hHeld.2.1, hHeld.2.2⟩
 clear hnd2
 refine hK.out _ _ (hS3) (fun hHeld => ?_)
 clear hK K
 refine norm_ (a' := ?_) ?_ ?_
 rotate_left
 ·show Act.put _ (some 28) _ = _
  simp only [Act.put, List.setIfInBounds_toArray, List.set_cons_zero, List.set_cons_succ, i64_w, i32_w]
  rfl
 refine pureS (i := 7) (N := (some 29)) #[true, true, true, true, true, true, true, true, false, false, false, false, false, false, false, false, false, false, false, false, false, false] HT_ ?_
 refine pureS (i := 8) (N := (some 30)) #[true, true, true, true, true, true, true, true, true, false, false, false, false, false, false, false, false, false, false, false, false, false] HT_ ?_
 refine pureS (i := 9) (N := (some 31)) #[true, true, true, true, true, true, true, true, true, true, false, false, false, false, false, false, false, false, false, false, false, false] HT_ ?_
 refine pureS (i := 10) (N := (some 32)) #[true, true, true, true, true, true, true, true, true, true, true, false, false, false, false, false, false, false, false, false, false, false] HT_ ?_
 refine pureS (i := 11) (N := (some 33)) #[true, true, true, true, true, true, true, true, true, true, true, true, false, false, false, false, false, false, false, false, false, false] HT_ ?_
 refine pureS (i := 12) (N := (some 34)) #[true, true, true, true, true, true, true, true, true, true, true, true, true, false, false, false, false, false, false, false, false, false] HT_ ?_
 refine pureS (i := 13) (N := (some 35)) #[true, true, true, true, true, true, true, true, true, true, true, true, true, true, false, false, false, false, false, false, false, false] HT_ ?_
 refine pureS (i := 14) (N := (some 36)) #[true, true, true, true, true, true, true, true, true, true, true, true, true, true, true, false, false, false, false, false, false, false] HT_ ?_
 refine take_ (i := 15) (N := (some 37)) (v := ?_) (a' := ?_) #[true, true, true, true, true, true, true, true, true, true, true, true, true, true, true, true, false, false, false, false, false, false] rfl rfl (take_ofW HT_.out HW_.out (by kernel_rfl)) (fun _ _ _ h => h) (Or.inl ⟨by rfl, ?_⟩) hHeld ?_ ?_
 rotate_left
 ·rintro w' ⟨s0, s1, s2⟩; have f1 : w'.cell? ⟨gb, 2, none⟩ = some (.int .i64 x.f1) := (blk_cell s0 2).trans rfl; have f2 : w'.cell? ⟨gb, 1, none⟩ = some (.int .i64 x.f0.f1) := (blk_cell s0 1).trans rfl
  go_simp
  with_reducible rfl
 rotate_left
 ·simp only [Act.put, List.setIfInBounds_toArray, List.set_cons_zero, List.set_cons_succ, i64_w, i32_w]
  rfl
 refine take_ (i := 16) (N := (some 38)) (v := ?_) (a' := ?_) #[true, true, true, true, true, true, true, true, true, true, true, true, true, true, true, true, true, false, false, false, false, false] rfl rfl (take_ofW HT_.out HW_.out (by kernel_rfl)) (fun _ _ _ h => h) (Or.inl ⟨by rfl, ?_⟩) hHeld ?_ ?_
 rotate_left
 ·rintro w' ⟨s0, s1, s2⟩
  refine Eq.trans (load32_run (x := x) (v := (.slice A3 x.f2.length c3)) _ (p := .tmp 5) ?ho_ ?hp_ (blk_cells s0)) ?hr_
  case ho_ => rfl
  case hp_ => rfl
  case hr_ => rfl
 rotate_left
 ·simp only [Act.put, List.setIfInBounds_toArray, List.set_cons_zero, List.set_cons_succ, i64_w, i32_w]
  rfl
 refine one_ (i := 17) (N := (some 39)) #[true, true, true, true, true, true, true, true, true, true, true, true, true, true, true, true, true, true, false, false, false, false] rfl rfl (one_of HT_.out (by kernel_rfl)) (by decide) (fun K hK => ?_)
 refine goes_ Try.func36 (by kernel_rfl) rfl #[(.agg #[.int .i64 x.f0.f0, .int .i64 x.f0.f1, .int .i64 x.f1, (.slice A3 x.f2.length c3), .int .i64 x.f3, .int .i64 x.f4.f0, .int .i64 x.f4.f1, .int .i64 x.f5.f0, .int .i64 x.f5.f1, .int .i64 x.f6.f0, .int .i64 x.f6.f1, .string x.f7, .string x.f8])] (by rfl) rfl rfl (by (try simp only [List.map_toArray, List.map_cons, List.map_nil]); first | done | rfl) ?_
 refine (causal_of.calls x.f0.f0 x.f0.f1 x.f1 A3 c3 x.f2 x.f3 x.f4.f0 x.f4.f1 x.f5.f0 x.f5.f1 x.f6.f0 x.f6.f1 x.f7 x.f8 x.f0.f1 x.f1 _ (Kd.C_below HC3.out HB3.out) HL3.out rfl).mono ?_
 rintro e w4 ⟨rfl, hb4⟩
 refine ⟨_, rfl, ?_⟩
 have hS4 : (fun w' => w'.heap[gb]? = some (.cells (chA x (.slice A3 x.f2.length c3)) 32 (0, 0)) ∧ w'.cell? ⟨g, 2, none⟩ = some (.map (some mb)) ∧ w'.heap[mb]? = some (.map (es.map entE).toArray cc)) w4 := ⟨blk_below hHeld.1 hb4, (hb4.cell (World.block_lt_of_cell? _ _ hHeld.2.1)).trans hHeld.2.1, blk_below hHeld.2.2 hb4⟩
 have HB4 := Aside0.mk (HB3.out.trans (hb4.mono HB3.out.size))
 clear hb4
 refine hK.out _ _ (hS4) (fun hHeld => ?_)
 clear hK K
 refine norm_ (a' := ?_) ?_ ?_
 rotate_left
 ·show Act.put _ (some 39) _ = _
  simp only [Act.put, List.setIfInBounds_toArray, List.set_cons_zero, List.set_cons_succ, i64_w, i32_w]
  rfl
 refine take_ (i := 18) (N := (some 40)) (v := ?_) (a' := ?_) #[true, true, true, true, true, true, true, true, true, true, true, true, true, true, true, true, true, true, true, false, false, false] rfl rfl (take_ofW HT_.out HW_.out (by kernel_rfl)) (fun _ _ _ h => h) (Or.inl ⟨by rfl, ?_⟩) hHeld ?_ ?_
 rotate_left
 ·rintro w' ⟨s0, s1, s2⟩
  have hl_ : (Instr.lookup 69 (.map (some mb)) (.agg #[.int .i64 x.f0.f1, .int .i64 x.f1]) false).run Try.prog w' = .ok (.int .i64 1) w' := by
   have h_ := look_run (show MapE w' mb es cc from s2) (keyOf x)
   rw [HOWN.out] at h_
   exact h_
  go_simp
  rfl
 rotate_left
 ·simp only [Act.put, List.setIfInBounds_toArray, List.set_cons_zero, List.set_cons_succ, i64_w, i32_w]
  rfl
 refine pureS (i := 19) (N := (some 41)) #[true, true, true, true, true, true, true, true, true, true, true, true, true, true, true, true, true, true, true, true, false, false] HT_ ?_
 refine pureS (i := 20) (N := (some 42)) #[true, true, true, true, true, true, true, true, true, true, true, true, true, true, true, true, true, true, true, true, true, false] HT_ ?_
 refine pureS (i := 21) (N := (some 43)) #[true, true, true, true, true, true, true, true, true, true, true, true, true, true, true, true, true, true, true, true, true, true] HT_ ?_
 refine done_ (done_of HT_.out (by kernel_rfl)) ?_
 go_wp2_with (fail)
 go_ret2
 exact TakeB.err HBUF.out HB4.out
set_option maxHeartbeats 8000000 in
set_option maxRecDepth 100000 in
theorem take_ripe {w : World} {base : Nat} {P : Nat → Prop} {g : Nat} {room : Int} {l : List S32} (hB : BufI w base P g room l) (A0 : Option Addr) (c0 : Nat) (known : List Int) (hk : Kd.C (Kd.int .i64) w A0 known.length known) (hkc : known.length ≤ c0)
  (x : S32) (A3 : Option Addr) (c3 : Nat) (hx : Kd.C (Kd.int .i64) w A3 x.f2.length x.f2) (hx3 : x.f2.length ≤ c3) (hs : x.f7.size < 4611686018427387904) (hc : chkC known = 0) (hc2 : checkX x = 0) (hw : withinX known x = false) (ho : ownX l x = false) (hr : ripeC known x = true) (hn : l.length < 1000) (hl64 : ∀ y ∈ l, y.f2.length ≤ 64) :
  Calls Try.prog 13 #[.pointer (some ⟨g, 0, none⟩), .slice A0 known.length c0, (.agg #[.int .i64 x.f0.f0, .int .i64 x.f0.f1, .int .i64 x.f1, (.slice A3 x.f2.length c3), .int .i64 x.f3, .int .i64 x.f4.f0, .int .i64 x.f4.f1, .int .i64 x.f5.f0, .int .i64 x.f5.f1, .int .i64 x.f6.f0, .int .i64 x.f6.f1, .string x.f7, .string x.f8])] w (TakeB w base P g room ((relF l.length (tickC known x.f0.f1).1 [x] l).2, (relF l.length (tickC known x.f0.f1).1 [x] l).1, 0)) := by
 have HBUF := Aside0.mk hB
 have HK := Aside0.mk hk
 have HKC := Aside0.mk hkc
 have HC3 := Aside0.mk hx
 have HL3 := Aside0.mk hx3
 have HCK := Aside0.mk (clock_Check_is known 66 (by decide))
 rw [hc] at HCK
 have HCE := Aside0.mk (change_Check_is (x.f7.size + 200) x.f0.f0 x.f0.f1 x.f1 x.f2 x.f3 x.f4.f0 x.f4.f1 x.f5.f0 x.f5.f1 x.f6.f0 x.f6.f1 x.f7 x.f8 hs (by omega) (by omega))
 rw [show checkC x.f0.f0 x.f0.f1 x.f1 x.f2 x.f3 x.f4.f0 x.f4.f1 x.f5.f0 x.f5.f1 x.f6.f0 x.f6.f1 x.f7 x.f8 = checkX x from rfl, hc2] at HCE
 have HX64 := Aside0.mk (check_ok hc2)
 have HCH := Aside0.mk hc
 obtain ⟨at_, hat_⟩ : ∃ a, atC known x.f0.f1 = a := ⟨_, rfl⟩
 have HAT := Aside0.mk (clock_At_is known x.f0.f1)
 rw [hat_] at HAT
 have hwx : withinX known x = decide (x.f1 ≤ at_) := by unfold withinX; rw [hat_]
 clear hat_

 rw [hw] at hwx
 have d1 : decide (x.f1 ≤ at_) = false := hwx.symm
 obtain ⟨mb, es, cc, A, ch, hO⟩ := HBUF.out.opened
 have HO := Aside0.mk hO
 clear hO

 have hown : valP es (keyOf x) = .int .i64 0 := by
  rw [HO.out.ok.val, if_neg (of_decide_eq_false ho)]
 have HOWN := Aside0.mk hown
 have HRD := Aside0.mk (ready_is (known := known) (x := x) hc (check_ok hc2).2.2.2.2.2 71 (by decide))

 rw [hr] at HRD
 have HN := Aside0.mk hn
 have H64 := Aside0.mk hl64
 have HCP := Aside0.mk (copy_is x (check_ok hc2).2.2.2.2.2)
 clear hB hk hkc hx hx3 hs hc hc2 hw hwx ho hown hr hn hl64
 go_enter Try.func13, Try.ntmps13
 go_wp2_with (first | ((with_reducible refine gate_dst (N := 5) rfl ?_); refine box_event ?hg (N := 5) ?hd (cs := #[.int .i64 x.f0.f0, .int .i64 x.f0.f1, .int .i64 x.f1, (.slice A3 x.f2.length c3), .int .i64 x.f3, .int .i64 x.f4.f0, .int .i64 x.f4.f1, .int .i64 x.f5.f0, .int .i64 x.f5.f1, .int .i64 x.f6.f0, .int .i64 x.f6.f1, .string x.f7, .string x.f8]) (t := 32) ?hr ?_; (case hd => rfl); (case hg => rfl); (case hr => first | (go_simp; done) | (go_simp; rfl)); intro gb hr_ w0 hbox hb; have HXgb := Aside0.mk hbox; have HBgb := Aside0.mk hb; have HNgb := Aside0.mk (Nat.le_of_eq hr_.symm); clear hbox hb hr_) | (go_at_call 33; (with_reducible refine (clock_Check.calls 66 A0 c0 known _ _ (Kd.C_below HK.out HBgb.out) HKC.out HCK.out).mono ?_); rintro e w1 ⟨rfl, ⟨nd, hnd⟩⟩; have HB1 := Aside0.mk (show Below w.heap.size w w1 by rw [hnd]; exact pw_below_drewN HBgb.out nd); have HX1 := Aside0.mk (show w1.heap[gb]? = some (.cells (chA x (.slice A3 x.f2.length c3)) 32 (0, 0)) by rw [hnd]; exact HXgb.out); clear hnd nd) | ((with_reducible refine gate_dst (N := 17) rfl ?_); refine load32_ev rfl (N := 17) rfl x (.slice A3 x.f2.length c3) (p := .tmp 5) rfl (ad := ⟨gb, 0, none⟩) rfl (blk_cells HX1.out) ?_) | (go_at_call 34; (with_reducible refine (change_Check.calls (x.f7.size + 200) x.f0.f0 x.f0.f1 x.f1 A3 c3 x.f2 x.f3 x.f4.f0 x.f4.f1 x.f5.f0 x.f5.f1 x.f6.f0 x.f6.f1 x.f7 x.f8 _ _ (Kd.C_below HC3.out HB1.out) HL3.out HCE.out).mono ?_); rintro e w2 ⟨rfl, hb2⟩; have HB2 := Aside0.mk (HB1.out.trans (hb2.mono HB1.out.size)); have HX2 := Aside0.mk (blk_below HX1.out hb2); clear hb2))

 refine start_ (n := 22) (S := (fun w' => w'.heap[gb]? = some (.cells (chA x (.slice A3 x.f2.length c3)) 32 (0, 0)) ∧ w'.cell? ⟨g, 2, none⟩ = some (.map (some mb)) ∧ w'.heap[mb]? = some (.map (es.map entE).toArray cc))) (ds := []) #[false, false, false, false, false, false, false, false, false, false, false, false, false, false, false, false, false, false, false, false, false, false] (by kernel_rfl) rfl rfl (⟨HX2.out, (blk_cell (blk_below HO.out.blk HB2.out) 2).trans rfl, blk_below HO.out.map (below_drew HB2.out)⟩) (fun hHeld => ?_)
 refine with_tabW tka.tab7 tka.bits7 (fun HT_ HW_ => ?_)
 refine pureS (i := 0) (N := (some 22)) #[true, false, false, false, false, false, false, false, false, false, false, false, false, false, false, false, false, false, false, false, false, false] HT_ ?_
 refine pureS (i := 2) (N := (some 24)) #[true, false, true, false, false, false, false, false, false, false, false, false, false, false, false, false, false, false, false, false, false, false] HT_ ?_
 refine pureS (i := 3) (N := (some 25)) #[true, false, true, true, false, false, false, false, false, false, false, false, false, false, false, false, false, false, false, false, false, false] HT_ ?_
 refine pureS (i := 4) (N := (some 26)) #[true, false, true, true, true, false, false, false, false, false, false, false, false, false, false, false, false, false, false, false, false, false] HT_ ?_
 refine take_ (i := 1) (N := (some 23)) (v := ?_) (a' := ?_) #[true, true, true, true, true, false, false, false, false, false, false, false, false, false, false, false, false, false, false, false, false, false] rfl rfl (take_ofW HT_.out HW_.out (by kernel_rfl)) (fun _ _ _ h => h) (Or.inl ⟨by rfl, ?_⟩) hHeld ?_ ?_
 rotate_left
 ·rintro w' ⟨s0, s1, s2⟩; have f1 : w'.cell? ⟨gb, 2, none⟩ = some (.int .i64 x.f1) := (blk_cell s0 2).trans rfl; have f2 : w'.cell? ⟨gb, 1, none⟩ = some (.int .i64 x.f0.f1) := (blk_cell s0 1).trans rfl
  go_simp
  with_reducible rfl
 rotate_left
 ·simp only [Act.put, List.setIfInBounds_toArray, List.set_cons_zero, List.set_cons_succ, i64_w, i32_w]
  rfl
 refine take_ (i := 5) (N := (some 27)) (v := ?_) (a' := ?_) #[true, true, true, true, true, true, false, false, false, false, false, false, false, false, false, false, false, false, false, false, false, false] rfl rfl (take_ofW HT_.out HW_.out (by kernel_rfl)) (fun _ _ _ h => h) (Or.inl ⟨by rfl, ?_⟩) hHeld ?_ ?_
 rotate_left
 ·rintro w' ⟨s0, s1, s2⟩; have f1 : w'.cell? ⟨gb, 2, none⟩ = some (.int .i64 x.f1) := (blk_cell s0 2).trans rfl; have f2 : w'.cell? ⟨gb, 1, none⟩ = some (.int .i64 x.f0.f1) := (blk_cell s0 1).trans rfl
  go_simp
  with_reducible rfl
 rotate_left
 ·simp only [Act.put, List.setIfInBounds_toArray, List.set_cons_zero, List.set_cons_succ, i64_w, i32_w]
  rfl
 refine one_ (i := 6) (N := (some 28)) #[true, true, true, true, true, true, true, false, false, false, false, false, false, false, false, false, false, false, false, false, false, false] rfl rfl (one_of HT_.out (by kernel_rfl)) (by decide) (fun K hK => ?_)
 refine goes_ Try.func35 (by kernel_rfl) rfl #[.slice A0 known.length c0, .int .i64 x.f0.f1] (by rfl) rfl rfl (by (try simp only [List.map_toArray, List.map_cons, List.map_nil]); first | done | rfl) ?_
 refine (clock_At.calls A0 c0 known x.f0.f1 _ _ (Kd.C_drew (Kd.C_below HK.out HB2.out)) HKC.out HAT.out).mono ?_
 rintro e w3 ⟨rfl, ⟨nd2, hnd2⟩⟩
 refine ⟨_, rfl, ?_⟩
 have HB3 := Aside0.mk (show Below w.heap.size w w3 by rw [hnd2]; exact pw_below_drewN (below_drew HB2.out) nd2)
 have hS3 : (fun w' => w'.heap[gb]? = some (.cells (chA x (.slice A3 x.f2.length c3)) 32 (0, 0)) ∧ w'.cell? ⟨g, 2, none⟩ = some (.map (some mb)) ∧ w'.heap[mb]? = some (.map (es.map entE).toArray cc)) w3 := by rw [hnd2]; exact ⟨hHeld.1, hHeld.2.1, hHeld.2.2⟩
 clear hnd2
 refine hK.out _ _ (hS3) (fun hHeld => ?_)
 clear hK K
 refine norm_ (a' := ?_) ?_ ?_
 rotate_left
 ·show Act.put _ (some 28) _ = _
  simp only [Act.put, List.setIfInBounds_toArray, List.set_cons_zero, List.set_cons_succ, i64_w, i32_w]
  rfl
 refine pureS (i := 7) (N := (some 29)) #[true, true, true, true, true, true, true, true, false, false, false, false, false, false, false, false, false, false, false, false, false, false] HT_ ?_
 refine pureS (i := 8) (N := (some 30)) #[true, true, true, true, true, true, true, true, true, false, false, false, false, false, false, false, false, false, false, false, false, false] HT_ ?_
 refine pureS (i := 9) (N := (some 31)) #[true, true, true, true, true, true, true, true, true, true, false, false, false, false, false, false, false, false, false, false, false, false] HT_ ?_
 refine pureS (i := 10) (N := (some 32)) #[true, true, true, true, true, true, true, true, true, true, true, false, false, false, false, false, false, false, false, false, false, false] HT_ ?_
 refine pureS (i := 11) (N := (some 33)) #[true, true, true, true, true, true, true, true, true, true, true, true, false, false, false, false, false, false, false, false, false, false] HT_ ?_
 refine pureS (i := 12) (N := (some 34)) #[true, true, true, true, true, true, true, true, true, true, true, true, true, false, false, false, false, false, false, false, false, false] HT_ ?_
 refine pureS (i := 13) (N := (some 35)) #[true, true, true, true, true, true, true, true, true, true, true, true, true, true, false, false, false, false, false, false, false, false] HT_ ?_
 refine pureS (i := 14) (N := (some 36)) #[true, true, true, true, true, true, true, true, true, true, true, true, true, true, true, false, false, false, false, false, false, false] HT_ ?_
 refine take_ (i := 15) (N := (some 37)) (v := ?_) (a' := ?_) #[true, true, true, true, true, true, true, true, true, true, true, true, true, true, true, true, false, false, false, false, false, false] rfl rfl (take_ofW HT_.out HW_.out (by kernel_rfl)) (fun _ _ _ h => h) (Or.inl ⟨by rfl, ?_⟩) hHeld ?_ ?_
 rotate_left
 ·rintro w' ⟨s0, s1, s2⟩; have f1 : w'.cell? ⟨gb, 2, none⟩ = some (.int .i64 x.f1) := (blk_cell s0 2).trans rfl; have f2 : w'.cell? ⟨gb, 1, none⟩ = some (.int .i64 x.f0.f1) := (blk_cell s0 1).trans rfl
  go_simp
  with_reducible rfl
 rotate_left
 ·simp only [Act.put, List.setIfInBounds_toArray, List.set_cons_zero, List.set_cons_succ, i64_w, i32_w]
  rfl
 refine take_ (i := 16) (N := (some 38)) (v := ?_) (a' := ?_) #[true, true, true, true, true, true, true, true, true, true, true, true, true, true, true, true, true, false, false, false, false, false] rfl rfl (take_ofW HT_.out HW_.out (by kernel_rfl)) (fun _ _ _ h => h) (Or.inl ⟨by rfl, ?_⟩) hHeld ?_ ?_
 rotate_left
 ·rintro w' ⟨s0, s1, s2⟩
  refine Eq.trans (load32_run (x := x) (v := (.slice A3 x.f2.length c3)) _ (p := .tmp 5) ?ho_ ?hp_ (blk_cells s0)) ?hr_
  case ho_ => rfl
  case hp_ => rfl
  case hr_ => rfl
 rotate_left
 ·simp only [Act.put, List.setIfInBounds_toArray, List.set_cons_zero, List.set_cons_succ, i64_w, i32_w]
  rfl
 refine one_ (i := 17) (N := (some 39)) #[true, true, true, true, true, true, true, true, true, true, true, true, true, true, true, true, true, true, false, false, false, false] rfl rfl (one_of HT_.out (by kernel_rfl)) (by decide) (fun K hK => ?_)
 refine goes_ Try.func36 (by kernel_rfl) rfl #[(.agg #[.int .i64 x.f0.f0, .int .i64 x.f0.f1, .int .i64 x.f1, (.slice A3 x.f2.length c3), .int .i64 x.f3, .int .i64 x.f4.f0, .int .i64 x.f4.f1, .int .i64 x.f5.f0, .int .i64 x.f5.f1, .int .i64 x.f6.f0, .int .i64 x.f6.f1, .string x.f7, .string x.f8])] (by rfl) rfl rfl (by (try simp only [List.map_toArray, List.map_cons, List.map_nil]); first | done | rfl) ?_
 refine (causal_of.calls x.f0.f0 x.f0.f1 x.f1 A3 c3 x.f2 x.f3 x.f4.f0 x.f4.f1 x.f5.f0 x.f5.f1 x.f6.f0 x.f6.f1 x.f7 x.f8 x.f0.f1 x.f1 _ (Kd.C_below HC3.out HB3.out) HL3.out rfl).mono ?_
 rintro e w4 ⟨rfl, hb4⟩
 refine ⟨_, rfl, ?_⟩
 have hS4 : (fun w' => w'.heap[gb]? = some (.cells (chA x (.slice A3 x.f2.length c3)) 32 (0, 0)) ∧ w'.cell? ⟨g, 2, none⟩ = some (.map (some mb)) ∧ w'.heap[mb]? = some (.map (es.map entE).toArray cc)) w4 := ⟨blk_below hHeld.1 hb4, (hb4.cell (World.block_lt_of_cell? _ _ hHeld.2.1)).trans hHeld.2.1, blk_below hHeld.2.2 hb4⟩
 have HB4 := Aside0.mk (HB3.out.trans (hb4.mono HB3.out.size))
 clear hb4
 refine hK.out _ _ (hS4) (fun hHeld => ?_)
 clear hK K
 refine norm_ (a' := ?_) ?_ ?_
 rotate_left
 ·show Act.put _ (some 39) _ = _
  simp only [Act.put, List.setIfInBounds_toArray, List.set_cons_zero, List.set_cons_succ, i64_w, i32_w]
  rfl
 refine take_ (i := 18) (N := (some 40)) (v := ?_) (a' := ?_) #[true, true, true, true, true, true, true, true, true, true, true, true, true, true, true, true, true, true, true, false, false, false] rfl rfl (take_ofW HT_.out HW_.out (by kernel_rfl)) (fun _ _ _ h => h) (Or.inl ⟨by rfl, ?_⟩) hHeld ?_ ?_
 rotate_left
 ·rintro w' ⟨s0, s1, s2⟩
  have hl_ : (Instr.lookup 69 (.map (some mb)) (.agg #[.int .i64 x.f0.f1, .int .i64 x.f1]) false).run Try.prog w' = .ok (.int .i64 0) w' := by
   have h_ := look_run (show MapE w' mb es cc from s2) (keyOf x)
   rw [HOWN.out] at h_
   exact h_
  go_simp
  rfl
 rotate_left
 ·simp only [Act.put, List.setIfInBounds_toArray, List.set_cons_zero, List.set_cons_succ, i64_w, i32_w]
  rfl
 refine pureS (i := 19) (N := (some 41)) #[true, true, true, true, true, true, true, true, true, true, true, true, true, true, true, true, true, true, true, true, false, false] HT_ ?_
 refine pureS (i := 20) (N := (some 42)) #[true, true, true, true, true, true, true, true, true, true, true, true, true, true, true, true, true, true, true, true, true, false] HT_ ?_
 refine pureS (i := 21) (N := (some 43)) #[true, true, true, true, true, true, true, true, true, true, true, true, true, true, true, true, true, true, true, true, true, true] HT_ ?_
 refine done_ (done_of HT_.out (by kernel_rfl)) ?_
 have HX4 := Aside0.mk hS4.1
 clear hS4 hS3 hHeld

 go_wp2_with (first | ((with_reducible refine gate_dst (N := 45) rfl ?_); refine load32_ev rfl (N := 45) rfl x (.slice A3 x.f2.length c3) (p := .tmp 5) rfl (ad := ⟨gb, 0, none⟩) rfl (blk_cells HX4.out) ?_) | (go_at_call 37; (with_reducible refine (causal_ready.calls 71 A0 c0 known x.f0.f0 x.f0.f1 x.f1 A3 c3 x.f2 x.f3 x.f4.f0 x.f4.f1 x.f5.f0 x.f5.f1 x.f6.f0 x.f6.f1 x.f7 x.f8 _ _ (Kd.C_below HK.out HB4.out) HKC.out (Kd.C_below HC3.out HB4.out) HL3.out HRD.out).mono ?_); rintro e w5 ⟨rfl, hb5⟩; have HB5 := Aside0.mk (HB4.out.trans (hb5.mono HB4.out.size)); have HX5 := Aside0.mk (blk_below HX4.out hb5); clear hb5) | ((with_reducible refine gate_dst (N := 49) rfl ?_); refine load32_ev rfl (N := 49) rfl x (.slice A3 x.f2.length c3) (p := .tmp 5) rfl (ad := ⟨gb, 0, none⟩) rfl (blk_cells HX5.out) ?_) | (go_at_call 39; (with_reducible refine (change_Copy.calls x.f0.f0 x.f0.f1 x.f1 A3 c3 x.f2 x.f3 x.f4.f0 x.f4.f1 x.f5.f0 x.f5.f1 x.f6.f0 x.f6.f1 x.f7 x.f8 x.f0.f0 x.f0.f1 x.f1 x.f2 x.f3 x.f4.f0 x.f4.f1 x.f5.f0 x.f5.f1 x.f6.f0 x.f6.f1 x.f7 x.f8 _ (Kd.C_below HC3.out HB5.out) HL3.out HCP.out).mono ?_); rintro e w6 ⟨v6, rfl, hv6, hb6⟩; obtain ⟨A6, c6, rfl⟩ := Kd.R_slice hv6; have HV6 := Aside0.mk (Kd.R_mono (Kd.R_bound hv6) (ok' := fun k => w5.heap.size ≤ k ∧ k < w6.heap.size) (fun k hk => ⟨hk.2.1, hk.2.2.1⟩)); have HB6 := Aside0.mk (HB5.out.trans (hb6.mono HB5.out.size)); clear hv6 hb6) | (go_at_call 38; (with_reducible refine (release_calls (HBUF.out.bound.below HB6.out) HN.out A0 c0 known (Kd.C_below HK.out HB6.out) HKC.out x A6 c6 (Kd.R_lower HV6.out (Nat.le_trans HBUF.out.base_le HB5.out.size)) ?hxp H64.out).mono ?_); (case hxp => exact fun k hk hp => by have h1_ := HB5.out.size; omega); rintro e w7 ⟨P', O, v7, rfl, hr1, hr2, hr3, hr4, hr5, hr6⟩; have HR1 := Aside0.mk hr1; have HR2 := Aside0.mk hr2; have HR3 := Aside0.mk hr3; have HR4 := Aside0.mk hr4; have HR5 := Aside0.mk hr5; have HR6 := Aside0.mk hr6; clear hr1 hr2 hr3 hr4 hr5 hr6))
 go_ret2
 refine ⟨P', O, v7, rfl, HR1.out, HR2.out, fun k hk => .inl (HR3.out k hk).1, HR4.out, fun k hk => ?_, (Kept.of_below HB6.out P).then_ HR6.out (fun k hk => .inl hk.1)⟩
 have h5 := HB5.out.size
 have h6 := HB6.out.size
 rcases HR5.out k hk with h_ | h_ | h_
 ·exact .inr (by omega)
 ·exact .inl h_.1
 ·exact .inr (by omega)
set_option maxHeartbeats 8000000 in
set_option maxRecDepth 100000 in
theorem take_full {w : World} {base : Nat} {P : Nat → Prop} {g : Nat} {room : Int} {l : List S32} (hB : BufI w base P g room l) (A0 : Option Addr) (c0 : Nat) (known : List Int) (hk : Kd.C (Kd.int .i64) w A0 known.length known) (hkc : known.length ≤ c0)
  (x : S32) (A3 : Option Addr) (c3 : Nat) (hx : Kd.C (Kd.int .i64) w A3 x.f2.length x.f2) (hx3 : x.f2.length ≤ c3) (hs : x.f7.size < 4611686018427387904) (hc : chkC known = 0) (hc2 : checkX x = 0) (hw : withinX known x = false) (ho : ownX l x = false) (hr : ripeC known x = false) (hf : room ≤ l.length) :
  Calls Try.prog 13 #[.pointer (some ⟨g, 0, none⟩), .slice A0 known.length c0, (.agg #[.int .i64 x.f0.f0, .int .i64 x.f0.f1, .int .i64 x.f1, (.slice A3 x.f2.length c3), .int .i64 x.f3, .int .i64 x.f4.f0, .int .i64 x.f4.f1, .int .i64 x.f5.f0, .int .i64 x.f5.f1, .int .i64 x.f6.f0, .int .i64 x.f6.f1, .string x.f7, .string x.f8])] w (TakeB w base P g room (l, [], 6)) := by
 have HBUF := Aside0.mk hB
 have HK := Aside0.mk hk
 have HKC := Aside0.mk hkc
 have HC3 := Aside0.mk hx
 have HL3 := Aside0.mk hx3
 have HCK := Aside0.mk (clock_Check_is known 66 (by decide))
 rw [hc] at HCK
 have HCE := Aside0.mk (change_Check_is (x.f7.size + 200) x.f0.f0 x.f0.f1 x.f1 x.f2 x.f3 x.f4.f0 x.f4.f1 x.f5.f0 x.f5.f1 x.f6.f0 x.f6.f1 x.f7 x.f8 hs (by omega) (by omega))
 rw [show checkC x.f0.f0 x.f0.f1 x.f1 x.f2 x.f3 x.f4.f0 x.f4.f1 x.f5.f0 x.f5.f1 x.f6.f0 x.f6.f1 x.f7 x.f8 = checkX x from rfl, hc2] at HCE
 have HX64 := Aside0.mk (check_ok hc2)
 have HCH := Aside0.mk hc
 obtain ⟨at_, hat_⟩ : ∃ a, atC known x.f0.f1 = a := ⟨_, rfl⟩
 have HAT := Aside0.mk (clock_At_is known x.f0.f1)
 rw [hat_] at HAT
 have hwx : withinX known x = decide (x.f1 ≤ at_) := by unfold withinX; rw [hat_]
 clear hat_

 rw [hw] at hwx
 have d1 : decide (x.f1 ≤ at_) = false := hwx.symm
 obtain ⟨mb, es, cc, A, ch, hO⟩ := HBUF.out.opened
 have HO := Aside0.mk hO
 clear hO

 have hown : valP es (keyOf x) = .int .i64 0 := by
  rw [HO.out.ok.val, if_neg (of_decide_eq_false ho)]
 have HOWN := Aside0.mk hown
 have HRD := Aside0.mk (ready_is (known := known) (x := x) hc (check_ok hc2).2.2.2.2.2 71 (by decide))

 rw [hr] at HRD
 have d3 : decide (room ≤ (l.length : Int)) = true := decide_eq_true hf
 have d4 : decide ((l.length : Int) ≥ room) = true := decide_eq_true hf
 clear hB hk hkc hx hx3 hs hc hc2 hw hwx ho hown hr hf
 go_enter Try.func13, Try.ntmps13
 go_wp2_with (first | ((with_reducible refine gate_dst (N := 5) rfl ?_); refine box_event ?hg (N := 5) ?hd (cs := #[.int .i64 x.f0.f0, .int .i64 x.f0.f1, .int .i64 x.f1, (.slice A3 x.f2.length c3), .int .i64 x.f3, .int .i64 x.f4.f0, .int .i64 x.f4.f1, .int .i64 x.f5.f0, .int .i64 x.f5.f1, .int .i64 x.f6.f0, .int .i64 x.f6.f1, .string x.f7, .string x.f8]) (t := 32) ?hr ?_; (case hd => rfl); (case hg => rfl); (case hr => first | (go_simp; done) | (go_simp; rfl)); intro gb hr_ w0 hbox hb; have HXgb := Aside0.mk hbox; have HBgb := Aside0.mk hb; have HNgb := Aside0.mk (Nat.le_of_eq hr_.symm); clear hbox hb hr_) | (go_at_call 33; (with_reducible refine (clock_Check.calls 66 A0 c0 known _ _ (Kd.C_below HK.out HBgb.out) HKC.out HCK.out).mono ?_); rintro e w1 ⟨rfl, ⟨nd, hnd⟩⟩; have HB1 := Aside0.mk (show Below w.heap.size w w1 by rw [hnd]; exact pw_below_drewN HBgb.out nd); have HX1 := Aside0.mk (show w1.heap[gb]? = some (.cells (chA x (.slice A3 x.f2.length c3)) 32 (0, 0)) by rw [hnd]; exact HXgb.out); clear hnd nd) | ((with_reducible refine gate_dst (N := 17) rfl ?_); refine load32_ev rfl (N := 17) rfl x (.slice A3 x.f2.length c3) (p := .tmp 5) rfl (ad := ⟨gb, 0, none⟩) rfl (blk_cells HX1.out) ?_) | (go_at_call 34; (with_reducible refine (change_Check.calls (x.f7.size + 200) x.f0.f0 x.f0.f1 x.f1 A3 c3 x.f2 x.f3 x.f4.f0 x.f4.f1 x.f5.f0 x.f5.f1 x.f6.f0 x.f6.f1 x.f7 x.f8 _ _ (Kd.C_below HC3.out HB1.out) HL3.out HCE.out).mono ?_); rintro e w2 ⟨rfl, hb2⟩; have HB2 := Aside0.mk (HB1.out.trans (hb2.mono HB1.out.size)); have HX2 := Aside0.mk (blk_below HX1.out hb2); clear hb2))

 refine start_ (n := 22) (S := (fun w' => w'.heap[gb]? = some (.cells (chA x (.slice A3 x.f2.length c3)) 32 (0, 0)) ∧ w'.cell? ⟨g, 2, none⟩ = some (.map (some mb)) ∧ w'.heap[mb]? = some (.map (es.map entE).toArray cc))) (ds := []) #[false, false, false, false, false, false, false, false, false, false, false, false, false, false, false, false, false, false, false, false, false, false] (by kernel_rfl) rfl rfl (⟨HX2.out, (blk_cell (blk_below HO.out.blk HB2.out) 2).trans rfl, blk_below HO.out.map (below_drew HB2.out)⟩) (fun hHeld => ?_)
 refine with_tabW tka.tab7 tka.bits7 (fun HT_ HW_ => ?_)
 refine pureS (i := 0) (N := (some 22)) #[true, false, false, false, false, false, false, false, false, false, false, false, false, false, false, false, false, false, false, false, false, false] HT_ ?_
 refine pureS (i := 2) (N := (some 24)) #[true, false, true, false, false, false, false, false, false, false, false, false, false, false, false, false, false, false, false, false, false, false] HT_ ?_
 refine pureS (i := 3) (N := (some 25)) #[true, false, true, true, false, false, false, false, false, false, false, false, false, false, false, false, false, false, false, false, false, false] HT_ ?_
 refine pureS (i := 4) (N := (some 26)) #[true, false, true, true, true, false, false, false, false, false, false, false, false, false, false, false, false, false, false, false, false, false] HT_ ?_
 refine take_ (i := 1) (N := (some 23)) (v := ?_) (a' := ?_) #[true, true, true, true, true, false, false, false, false, false, false, false, false, false, false, false, false, false, false, false, false, false] rfl rfl (take_ofW HT_.out HW_.out (by kernel_rfl)) (fun _ _ _ h => h) (Or.inl ⟨by rfl, ?_⟩) hHeld ?_ ?_
 rotate_left
 ·rintro w' ⟨s0, s1, s2⟩; have f1 : w'.cell? ⟨gb, 2, none⟩ = some (.int .i64 x.f1) := (blk_cell s0 2).trans rfl; have f2 : w'.cell? ⟨gb, 1, none⟩ = some (.int .i64 x.f0.f1) := (blk_cell s0 1).trans rfl
  go_simp
  with_reducible rfl
 rotate_left
 ·simp only [Act.put, List.setIfInBounds_toArray, List.set_cons_zero, List.set_cons_succ, i64_w, i32_w]
  rfl
 refine take_ (i := 5) (N := (some 27)) (v := ?_) (a' := ?_) #[true, true, true, true, true, true, false, false, false, false, false, false, false, false, false, false, false, false, false, false, false, false] rfl rfl (take_ofW HT_.out HW_.out (by kernel_rfl)) (fun _ _ _ h => h) (Or.inl ⟨by rfl, ?_⟩) hHeld ?_ ?_
 rotate_left
 ·rintro w' ⟨s0, s1, s2⟩; have f1 : w'.cell? ⟨gb, 2, none⟩ = some (.int .i64 x.f1) := (blk_cell s0 2).trans rfl; have f2 : w'.cell? ⟨gb, 1, none⟩ = some (.int .i64 x.f0.f1) := (blk_cell s0 1).trans rfl
  go_simp
  with_reducible rfl
 rotate_left
 ·simp only [Act.put, List.setIfInBounds_toArray, List.set_cons_zero, List.set_cons_succ, i64_w, i32_w]
  rfl
 refine one_ (i := 6) (N := (some 28)) #[true, true, true, true, true, true, true, false, false, false, false, false, false, false, false, false, false, false, false, false, false, false] rfl rfl (one_of HT_.out (by kernel_rfl)) (by decide) (fun K hK => ?_)
 refine goes_ Try.func35 (by kernel_rfl) rfl #[.slice A0 known.length c0, .int .i64 x.f0.f1] (by rfl) rfl rfl (by (try simp only [List.map_toArray, List.map_cons, List.map_nil]); first | done | rfl) ?_
 refine (clock_At.calls A0 c0 known x.f0.f1 _ _ (Kd.C_drew (Kd.C_below HK.out HB2.out)) HKC.out HAT.out).mono ?_
 rintro e w3 ⟨rfl, ⟨nd2, hnd2⟩⟩
 refine ⟨_, rfl, ?_⟩
 have HB3 := Aside0.mk (show Below w.heap.size w w3 by rw [hnd2]; exact pw_below_drewN (below_drew HB2.out) nd2)
 have hS3 : (fun w' => w'.heap[gb]? = some (.cells (chA x (.slice A3 x.f2.length c3)) 32 (0, 0)) ∧ w'.cell? ⟨g, 2, none⟩ = some (.map (some mb)) ∧ w'.heap[mb]? = some (.map (es.map entE).toArray cc)) w3 := by rw [hnd2]; exact ⟨hHeld.1, hHeld.2.1, hHeld.2.2⟩
 clear hnd2
 refine hK.out _ _ (hS3) (fun hHeld => ?_)
 clear hK K
 refine norm_ (a' := ?_) ?_ ?_
 rotate_left
 ·show Act.put _ (some 28) _ = _
  simp only [Act.put, List.setIfInBounds_toArray, List.set_cons_zero, List.set_cons_succ, i64_w, i32_w]
  rfl
 refine pureS (i := 7) (N := (some 29)) #[true, true, true, true, true, true, true, true, false, false, false, false, false, false, false, false, false, false, false, false, false, false] HT_ ?_
 refine pureS (i := 8) (N := (some 30)) #[true, true, true, true, true, true, true, true, true, false, false, false, false, false, false, false, false, false, false, false, false, false] HT_ ?_
 refine pureS (i := 9) (N := (some 31)) #[true, true, true, true, true, true, true, true, true, true, false, false, false, false, false, false, false, false, false, false, false, false] HT_ ?_
 refine pureS (i := 10) (N := (some 32)) #[true, true, true, true, true, true, true, true, true, true, true, false, false, false, false, false, false, false, false, false, false, false] HT_ ?_
 refine pureS (i := 11) (N := (some 33)) #[true, true, true, true, true, true, true, true, true, true, true, true, false, false, false, false, false, false, false, false, false, false] HT_ ?_
 refine pureS (i := 12) (N := (some 34)) #[true, true, true, true, true, true, true, true, true, true, true, true, true, false, false, false, false, false, false, false, false, false] HT_ ?_
 refine pureS (i := 13) (N := (some 35)) #[true, true, true, true, true, true, true, true, true, true, true, true, true, true, false, false, false, false, false, false, false, false] HT_ ?_
 refine pureS (i := 14) (N := (some 36)) #[true, true, true, true, true, true, true, true, true, true, true, true, true, true, true, false, false, false, false, false, false, false] HT_ ?_
 refine take_ (i := 15) (N := (some 37)) (v := ?_) (a' := ?_) #[true, true, true, true, true, true, true, true, true, true, true, true, true, true, true, true, false, false, false, false, false, false] rfl rfl (take_ofW HT_.out HW_.out (by kernel_rfl)) (fun _ _ _ h => h) (Or.inl ⟨by rfl, ?_⟩) hHeld ?_ ?_
 rotate_left
 ·rintro w' ⟨s0, s1, s2⟩; have f1 : w'.cell? ⟨gb, 2, none⟩ = some (.int .i64 x.f1) := (blk_cell s0 2).trans rfl; have f2 : w'.cell? ⟨gb, 1, none⟩ = some (.int .i64 x.f0.f1) := (blk_cell s0 1).trans rfl
  go_simp
  with_reducible rfl
 rotate_left
 ·simp only [Act.put, List.setIfInBounds_toArray, List.set_cons_zero, List.set_cons_succ, i64_w, i32_w]
  rfl
 refine take_ (i := 16) (N := (some 38)) (v := ?_) (a' := ?_) #[true, true, true, true, true, true, true, true, true, true, true, true, true, true, true, true, true, false, false, false, false, false] rfl rfl (take_ofW HT_.out HW_.out (by kernel_rfl)) (fun _ _ _ h => h) (Or.inl ⟨by rfl, ?_⟩) hHeld ?_ ?_
 rotate_left
 ·rintro w' ⟨s0, s1, s2⟩
  refine Eq.trans (load32_run (x := x) (v := (.slice A3 x.f2.length c3)) _ (p := .tmp 5) ?ho_ ?hp_ (blk_cells s0)) ?hr_
  case ho_ => rfl
  case hp_ => rfl
  case hr_ => rfl
 rotate_left
 ·simp only [Act.put, List.setIfInBounds_toArray, List.set_cons_zero, List.set_cons_succ, i64_w, i32_w]
  rfl
 refine one_ (i := 17) (N := (some 39)) #[true, true, true, true, true, true, true, true, true, true, true, true, true, true, true, true, true, true, false, false, false, false] rfl rfl (one_of HT_.out (by kernel_rfl)) (by decide) (fun K hK => ?_)
 refine goes_ Try.func36 (by kernel_rfl) rfl #[(.agg #[.int .i64 x.f0.f0, .int .i64 x.f0.f1, .int .i64 x.f1, (.slice A3 x.f2.length c3), .int .i64 x.f3, .int .i64 x.f4.f0, .int .i64 x.f4.f1, .int .i64 x.f5.f0, .int .i64 x.f5.f1, .int .i64 x.f6.f0, .int .i64 x.f6.f1, .string x.f7, .string x.f8])] (by rfl) rfl rfl (by (try simp only [List.map_toArray, List.map_cons, List.map_nil]); first | done | rfl) ?_
 refine (causal_of.calls x.f0.f0 x.f0.f1 x.f1 A3 c3 x.f2 x.f3 x.f4.f0 x.f4.f1 x.f5.f0 x.f5.f1 x.f6.f0 x.f6.f1 x.f7 x.f8 x.f0.f1 x.f1 _ (Kd.C_below HC3.out HB3.out) HL3.out rfl).mono ?_
 rintro e w4 ⟨rfl, hb4⟩
 refine ⟨_, rfl, ?_⟩
 have hS4 : (fun w' => w'.heap[gb]? = some (.cells (chA x (.slice A3 x.f2.length c3)) 32 (0, 0)) ∧ w'.cell? ⟨g, 2, none⟩ = some (.map (some mb)) ∧ w'.heap[mb]? = some (.map (es.map entE).toArray cc)) w4 := ⟨blk_below hHeld.1 hb4, (hb4.cell (World.block_lt_of_cell? _ _ hHeld.2.1)).trans hHeld.2.1, blk_below hHeld.2.2 hb4⟩
 have HB4 := Aside0.mk (HB3.out.trans (hb4.mono HB3.out.size))
 clear hb4
 refine hK.out _ _ (hS4) (fun hHeld => ?_)
 clear hK K
 refine norm_ (a' := ?_) ?_ ?_
 rotate_left
 ·show Act.put _ (some 39) _ = _
  simp only [Act.put, List.setIfInBounds_toArray, List.set_cons_zero, List.set_cons_succ, i64_w, i32_w]
  rfl
 refine take_ (i := 18) (N := (some 40)) (v := ?_) (a' := ?_) #[true, true, true, true, true, true, true, true, true, true, true, true, true, true, true, true, true, true, true, false, false, false] rfl rfl (take_ofW HT_.out HW_.out (by kernel_rfl)) (fun _ _ _ h => h) (Or.inl ⟨by rfl, ?_⟩) hHeld ?_ ?_
 rotate_left
 ·rintro w' ⟨s0, s1, s2⟩
  have hl_ : (Instr.lookup 69 (.map (some mb)) (.agg #[.int .i64 x.f0.f1, .int .i64 x.f1]) false).run Try.prog w' = .ok (.int .i64 0) w' := by
   have h_ := look_run (show MapE w' mb es cc from s2) (keyOf x)
   rw [HOWN.out] at h_
   exact h_
  go_simp
  rfl
 rotate_left
 ·simp only [Act.put, List.setIfInBounds_toArray, List.set_cons_zero, List.set_cons_succ, i64_w, i32_w]
  rfl
 refine pureS (i := 19) (N := (some 41)) #[true, true, true, true, true, true, true, true, true, true, true, true, true, true, true, true, true, true, true, true, false, false] HT_ ?_
 refine pureS (i := 20) (N := (some 42)) #[true, true, true, true, true, true, true, true, true, true, true, true, true, true, true, true, true, true, true, true, true, false] HT_ ?_
 refine pureS (i := 21) (N := (some 43)) #[true, true, true, true, true, true, true, true, true, true, true, true, true, true, true, true, true, true, true, true, true, true] HT_ ?_
 refine done_ (done_of HT_.out (by kernel_rfl)) ?_
 have HX4 := Aside0.mk hS4.1
 clear hS4 hS3 hHeld

 go_wp2_with (first | ((with_reducible refine gate_dst (N := 45) rfl ?_); refine load32_ev rfl (N := 45) rfl x (.slice A3 x.f2.length c3) (p := .tmp 5) rfl (ad := ⟨gb, 0, none⟩) rfl (blk_cells HX4.out) ?_) | (go_at_call 37; (with_reducible refine (causal_ready.calls 71 A0 c0 known x.f0.f0 x.f0.f1 x.f1 A3 c3 x.f2 x.f3 x.f4.f0 x.f4.f1 x.f5.f0 x.f5.f1 x.f6.f0 x.f6.f1 x.f7 x.f8 _ _ (Kd.C_below HK.out HB4.out) HKC.out (Kd.C_below HC3.out HB4.out) HL3.out HRD.out).mono ?_); rintro e w5 ⟨rfl, hb5⟩; have HB5 := Aside0.mk (HB4.out.trans (hb5.mono HB4.out.size)); have HX5 := Aside0.mk (blk_below HX4.out hb5); clear hb5) | (go_at_call 16; (with_reducible refine (len_calls (HBUF.out.below HB5.out)).mono ?_); rintro e w6 ⟨rfl, rfl⟩) | (go_at_call 40; (with_reducible refine (room_calls (HBUF.out.below HB5.out)).mono ?_); rintro e w7 ⟨rfl, rfl⟩))
 go_ret2
 exact TakeB.err HBUF.out HB5.out
end Go.Proofs.Ytnopjjilpgekfaa.PCa
