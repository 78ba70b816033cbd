/- Copy of a tree, and a tree that is spoilt. -/
import Derived.Test.YtnkbgimihikhoaaWWords
import Derived.Test.YtnkbgimihikhoaaMVtPa
import Derived.Test.YtnkbgimihikhoaaMVtS
namespace Go.Proofs.YtnkbgimihikhoaaW.PrintWords
open Go.RowKit
set_option linter.unusedVariables false
namespace Kd
variable {P : Program} {ops : Array Oper} {rest : List Oper} {o : Oper} {a : Act} {Q : Exit → Act → World → Prop} {α : Type}
theorem R_make0 (d : Kd α) {w0 W : World} (base e : Nat) (hgd : o.guard = none) {N : Tmp} (hd : o.dst = some N) (t : TypeId) (x y : Operand) (ho : o.op = .makeSlice t x y) (m : Int) (hx : a.eval x = .int .i64 0) (hy : a.eval y = .int .i64 m)
    (ht : P.underlying t = some (.slice e)) (z : Value) (bytes : Nat) (hinfo : (P.info? e).map (fun i => (i.zero, i.size, i.bytes)) = some (some z, d.sz, bytes)) (hz : z.cells.size = d.sz) (hb0 : 0 < bytes)
    (z0 : α) {ok : Nat → Prop} (hfresh : ok W.heap.size) (h0 : 0 ≤ m) (hl : m.toNat * bytes ≤ 281474976710656) (HB : Below base w0 W) (hbase : base ≤ W.heap.size)
    (h : ∀ v1 w1, d.R e w1 base ok v1 (List.replicate 0 z0) → Below base w0 w1 → W.grownBy w1 none → (∃ b, v1.ownBlock = some b ∧ W.heap.size ≤ b) → wpList P ops Q rest (a.put o.dst v1) w1) : wpList P ops Q (o :: rest) a W := by
  obtain ⟨m, rfl⟩ := Int.eq_ofNat_of_zero_le h0
  simp only [Int.toNat_natCast] at hl
  obtain ⟨i0, hi, hzz⟩ := Option.map_eq_some_iff.1 hinfo
  simp only [Prod.mk.injEq] at hzz
  obtain ⟨hz0, hz1, hz2⟩ := hzz
  have hm : m ≤ 281474976710656 := Nat.le_trans (Nat.le_mul_of_pos_right _ hb0) hl
  obtain ⟨w1, hr, hown, hg⟩ := run_make_own (P := P) W base t e i0 z d.sz ht hi hz0 hz1 .i64 .i64 m (by rw [hz2, Nat.mul_comm]; exact hl) (by simp only [maxLen]; omega) hbase
  have hrun : (execOp a.eval o).run P W = .ok (.value (.slice (some ⟨W.heap.size, 0, none⟩) 0 m)) w1 := by simp [execOp, ho, hx, hy, hr]
  refine event_run hgd hrun (h _ _ ⟨fun k hk => ?_, [], hown, Reps.none _ _⟩ (HB.grown hg hbase (fun k hk => by cases hk)) hg ⟨W.heap.size, by simp [Value.ownBlock], Nat.le_refl _⟩)
  have : W.heap.size = k := by simpa [Value.ownBlock] using hk
  subst this
  exact hfresh
end Kd
end Go.Proofs.YtnkbgimihikhoaaW.PrintWords
namespace Go.Proofs.Ytnkbgimihikhoaa.PVt
open Go.RowKit Go.Proofs.YtnkbgimihikhoaaW.PrintWords Go.Proofs.YtnkbgimihikhoaaW.PrintLast Go.Proofs.YtnkbgimihikhoaaW.PrintMore
attribute [local go_sem] max2_int min2_int max_two min_two max_three min_three max_four min_four   -- for this text's walks alone
set_option linter.unusedVariables false
set_option linter.unusedSimpArgs false

/-! ### vtree_Copy: function 25 -/
mutual
def vtree_Copy.l0 : Nat → List (S27) → List (S27) → Int → Int → Int → Int → ByteArray → ByteArray → List (S99) → List (S27) → Option (Int × Int × ByteArray × ByteArray × (List (S99)) × (List (S27)))
  | 0, _, _, _, _, _, _, _, _, _, _ => none
  | k + 1, x3, x16, x17, x18, x149000, x149001, x149002, x149003, x149004, x149005 => if x18 < x17 then (if 0 ≤ x18 then (if x18 < (x16.length : Int) then ((vtree_Copy.f k ((rd_T27 x16 x18).f0.f0) ((rd_T27 x16 x18).f0.f1) ((rd_T27 x16 x18).f1) ((rd_T27 x16 x18).f2) ((rd_T27 x16 x18).f3) ((rd_T27 x16 x18).f4)).bind fun bt161 => (if x3.length < 1466015503701 then (vtree_Copy.l0 k (x3 ++ [(⟨(⟨bt161.1, bt161.2.1⟩ : S23), bt161.2.2.1, bt161.2.2.2.1, bt161.2.2.2.2.1, bt161.2.2.2.2.2⟩ : S27)]) x16 x17 (wrap64 (x18 + 1)) x149000 x149001 x149002 x149003 x149004 x149005) else (none))) else (none)) else (none)) else (some (x149000, x149001, x149002, x149003, x149004, x3))
def vtree_Copy.f : Nat → Int → Int → ByteArray → ByteArray → List (S99) → List (S27) → Option (Int × Int × ByteArray × ByteArray × (List (S99)) × (List (S27)))
  | 0, _, _, _, _, _, _ => none
  | k + 1, a0_0, a0_1, a0_2, a0_3, l0_4, l0_5 => (some (([] : List (S99)) : List (S99))).bind fun y150 => (if y150.length + l0_4.length < 4398046511104 then (if 0 ≤ (l0_5.length : Int) then (if ((l0_5.length : Int) : Int).toNat ≤ 2932031007402 then (vtree_Copy.l0 k (List.replicate 0 z27) l0_5 (l0_5.length : Int) 0 a0_0 a0_1 a0_2 a0_3 (y150 ++ l0_4) l0_5) else (none)) else (none)) else (none))
end
theorem vtree_Copy.mono_l : ∀ k, (∀ y0 y1 y2 y3 y4 y5, LeO (vtree_Copy.f k y0 y1 y2 y3 y4 y5) (vtree_Copy.f (k + 1) y0 y1 y2 y3 y4 y5)) ∧ (∀ y0 y1 y2 y3 y4 y5 y6 y7 y8 y9, LeO (vtree_Copy.l0 k y0 y1 y2 y3 y4 y5 y6 y7 y8 y9) (vtree_Copy.l0 (k + 1) y0 y1 y2 y3 y4 y5 y6 y7 y8 y9))
  | 0 => ⟨fun _ _ _ _ _ _ r h => by simp [vtree_Copy.f] at h, fun _ _ _ _ _ _ _ _ _ _ r h => by simp [vtree_Copy.l0] at h⟩
  | k + 1 => by
    obtain ⟨ih0, ih1⟩ := vtree_Copy.mono_l k
    refine ⟨?_, ?_⟩
    · intro y0 y1 y2 y3 y4 y5
      unfold vtree_Copy.f
      repeat' first
      | (with_reducible exact ih0 _ _ _ _ _ _)
      | (with_reducible exact ih1 _ _ _ _ _ _ _ _ _ _)
      | (with_reducible exact LeO.refl _)
      | (with_reducible exact LeO.none _)
      | (with_reducible refine LeO.ite ?_ ?_)
      | (with_reducible refine LeO.bind ?_ (fun _ => ?_))
      | exact ih0 _ _ _ _ _ _
      | exact ih1 _ _ _ _ _ _ _ _ _ _
      | exact LeO.none _
      | refine LeO.ite ?_ ?_
      | refine LeO.bind ?_ (fun _ => ?_)
    · intro y0 y1 y2 y3 y4 y5 y6 y7 y8 y9
      unfold vtree_Copy.l0
      repeat' first
      | (with_reducible exact ih0 _ _ _ _ _ _)
      | (with_reducible exact ih1 _ _ _ _ _ _ _ _ _ _)
      | (with_reducible exact LeO.refl _)
      | (with_reducible exact LeO.none _)
      | (with_reducible refine LeO.ite ?_ ?_)
      | (with_reducible refine LeO.bind ?_ (fun _ => ?_))
      | exact ih0 _ _ _ _ _ _
      | exact ih1 _ _ _ _ _ _ _ _ _ _
      | exact LeO.none _
      | refine LeO.ite ?_ ?_
      | refine LeO.bind ?_ (fun _ => ?_)
theorem vtree_Copy.mono : ∀ a0 a1 a2 a3 a4 a5 k, LeO (vtree_Copy.f k a0 a1 a2 a3 a4 a5) (vtree_Copy.f (k + 1) a0 a1 a2 a3 a4 a5) := by
  intro a0 a1 a2 a3 a4 a5 k
  obtain ⟨ih0, ih1⟩ := vtree_Copy.mono_l k
  exact ih0 a0 a1 a2 a3 a4 a5
set_option maxHeartbeats 8000000 in
set_option maxRecDepth 100000 in
theorem vtree_Copy.calls (k : Nat) : ∀ (a0_0 : Int) (a0_1 : Int) (a0_2 : ByteArray) (a0_3 : ByteArray) (A0_4 : Option Addr) (c0_4 : Nat) (l0_4 : List (S99)) (A0_5 : Option Addr) (c0_5 : Nat) (l0_5 : List (S27)) (r1 : Int) (r2 : Int) (r3 : ByteArray) (r4 : ByteArray) (r5 : List (S99)) (r6 : List (S27)) (w : World) (hr0_4 : Kd.C k99 w A0_4 l0_4.length l0_4) (hc0_4 : l0_4.length ≤ c0_4) (hr0_5 : Kd.C k27 w A0_5 l0_5.length l0_5) (hc0_5 : l0_5.length ≤ c0_5) (h : vtree_Copy.f k a0_0 a0_1 a0_2 a0_3 l0_4 l0_5 = some (r1, r2, r3, r4, r5, r6)),
    Calls Try.prog 25 #[.agg #[.int .i64 a0_0, .int .i64 a0_1, .string a0_2, .string a0_3, .slice A0_4 l0_4.length c0_4, .slice A0_5 l0_5.length c0_5]] w fun e w' => ∃ v4_ v5_ : Value, e = .returned (.agg #[.int .i64 r1, .int .i64 r2, .string r3, .string r4, v4_, v5_]) ∧ Kd.R k99 99 w' w.heap.size (fun _ => True) v4_ r5 ∧ Kd.R k27 27 w' w.heap.size (fun k_ => some k_ ≠ (v4_ : Value).ownBlock) v5_ r6 ∧ Below w.heap.size w w' := by
  induction k using Nat.strongRecOn with
  | _ k ih =>
  intro a0_0 a0_1 a0_2 a0_3 A0_4 c0_4 l0_4 A0_5 c0_5 l0_5 r1 r2 r3 r4 r5 r6 w hr0_4 hc0_4 hr0_5 hc0_5 h
  cases k with
  | zero => exact absurd h (by simp [vtree_Copy.f])
  | succ k =>
  simp only [vtree_Copy.f] at h
  have hu27 := Try.underlying27
  have HR0_4 := Aside0.mk hr0_4
  have HC0_4 := Aside0.mk hc0_4
  clear hr0_4 hc0_4
  have HR0_5 := Aside0.mk hr0_5
  have HC0_5 := Aside0.mk hc0_5
  clear hr0_5 hc0_5
  have HB := Aside0.mk (Below.refl w.heap.size w)
  have H : ((some (([] : List (S99)) : List (S99))).bind fun y150 => (if y150.length + l0_4.length < 4398046511104 then (if 0 ≤ (l0_5.length : Int) then (if ((l0_5.length : Int) : Int).toNat ≤ 2932031007402 then (vtree_Copy.l0 k (List.replicate 0 z27) l0_5 (l0_5.length : Int) 0 a0_0 a0_1 a0_2 a0_3 (y150 ++ l0_4) l0_5) else (none)) else (none)) else (none))) = some (r1, r2, r3, r4, r5, r6) := h
  clear h
  obtain ⟨y150, hy150⟩ : ∃ y_ : List (S99), y_ = (([] : List (S99))) := ⟨_, rfl⟩
  replace H : (if y150.length + l0_4.length < 4398046511104 then (if 0 ≤ (l0_5.length : Int) then (if ((l0_5.length : Int) : Int).toNat ≤ 2932031007402 then (vtree_Copy.l0 k (List.replicate 0 z27) l0_5 (l0_5.length : Int) 0 a0_0 a0_1 a0_2 a0_3 (y150 ++ l0_4) l0_5) else (none)) else (none)) else (none)) = some (r1, r2, r3, r4, r5, r6) := by first | (rw [hy150]; with_reducible exact H) | (have H2_ := (Option.bind_some _ _).symm.trans H; rw [hy150]; with_reducible exact H2_) | (have H2_ := (Option.bind_some _ _).symm.trans H; with_reducible exact H2_) | with_reducible exact H | (rw [hy150]; exact H) | exact H
  have Ny150 := Aside0.mk hy150
  clear hy150
  by_cases c2 : y150.length + l0_4.length < 4398046511104
  · rw [if_pos c2] at H
    have LMc2 := Aside0.mk c2
    clear c2
    obtain ⟨y153, hy153⟩ : ∃ y_ : List (S99), y_ = (y150 ++ l0_4) := ⟨_, rfl⟩
    replace H : (if 0 ≤ (l0_5.length : Int) then (if ((l0_5.length : Int) : Int).toNat ≤ 2932031007402 then (vtree_Copy.l0 k (List.replicate 0 z27) l0_5 (l0_5.length : Int) 0 a0_0 a0_1 a0_2 a0_3 y153 l0_5) else (none)) else (none)) = some (r1, r2, r3, r4, r5, r6) := by first | (rw [hy153]; with_reducible exact H) | (have H2_ := (Option.bind_some _ _).symm.trans H; rw [hy153]; with_reducible exact H2_) | (have H2_ := (Option.bind_some _ _).symm.trans H; with_reducible exact H2_) | with_reducible exact H | (rw [hy153]; exact H) | exact H
    have Ny153 := Aside0.mk hy153
    clear hy153
    by_cases c3 : 0 ≤ (l0_5.length : Int)
    · rw [if_pos c3] at H
      have c3b0 := eq_true c3
      have c3b1 : decide (0 ≤ (l0_5.length : Int)) = true := decide_eq_true c3
      clear c3
      by_cases c4 : ((l0_5.length : Int) : Int).toNat ≤ 2932031007402
      · rw [if_pos c4] at H
        have c4b0 := eq_true c4
        have c4b1 : decide (((l0_5.length : Int) : Int).toNat ≤ 2932031007402) = true := decide_eq_true c4
        clear c4
        obtain ⟨y156, hy156⟩ : ∃ y_ : List (S27), y_ = (List.replicate 0 z27) := ⟨_, rfl⟩
        replace H : (vtree_Copy.l0 k y156 l0_5 (l0_5.length : Int) 0 a0_0 a0_1 a0_2 a0_3 y153 l0_5) = some (r1, r2, r3, r4, r5, r6) := by first | (rw [hy156]; with_reducible exact H) | (have H2_ := (Option.bind_some _ _).symm.trans H; rw [hy156]; with_reducible exact H2_) | (have H2_ := (Option.bind_some _ _).symm.trans H; with_reducible exact H2_) | with_reducible exact H | (rw [hy156]; exact H) | exact H
        have Ny156 := Aside0.mk hy156
        clear hy156
        have H' := Aside0.mk H
        clear H
        go_enter Try.func25, Try.ntmps25
        go_wp2_with (first | ((with_reducible refine gate_dst (N := 1) rfl ?_); refine box_event ?hg (N := 1) ?hd (cs := #[.int .i64 a0_0, .int .i64 a0_1, .string a0_2, .string a0_3, .slice A0_4 l0_4.length c0_4, .slice A0_5 l0_5.length c0_5]) (t := 27) ?hr ?_; (case hd => rfl); (case hg => rfl); (case hr => first | (go_simp; done) | (go_simp; rfl)); intro gb148 hg w5 hbox hb; have n0_ := Aside0.mk (below_step (by repeat (first | (with_reducible first | exact HB.out | apply below_alloc | apply pw_below_drewN | apply below_drew1) | exact HB.out)) hb); have n1_ := Aside0.mk (hbox); have n2_ := Aside0.mk ((by rw [hg]; exact (below_size (by repeat (first | (with_reducible first | exact HB.out | apply below_alloc | apply pw_below_drewN | apply below_drew1) | exact HB.out))) : w.heap.size ≤ gb148)); have n3_ := Aside0.mk ((by rw [hg]; exact (below_size (by repeat (first | (with_reducible first | exact HB.out | apply below_alloc | apply pw_below_drewN | apply below_drew1) | exact HB.out))) : w.heap.size ≤ gb148)); clear HB; have HB := n0_; have BK148 := n1_; have GW148 := n2_; have GE148 := n3_; clear n0_ n1_ n2_ n3_; clear hb hbox hg) | ((with_reducible refine gate_dst (N := 2) rfl ?_); refine box_event ?hg (N := 2) ?hd (cs := #[.int .i64 0, .int .i64 0, .string (⟨#[]⟩ : ByteArray), .string (⟨#[]⟩ : ByteArray), .slice none 0 0, .slice none 0 0]) (t := 27) ?hr ?_; (case hd => rfl); (case hg => rfl); (case hr => first | (go_simp; done) | (go_simp; rfl)); intro gb149 hg w6 hbox hb; have n0_ := Aside0.mk (blk_below (g := gb148) (o := .cells #[.int .i64 a0_0, .int .i64 a0_1, .string a0_2, .string a0_3, .slice A0_4 l0_4.length c0_4, .slice A0_5 l0_5.length c0_5] 27 (0, 0)) (by (with_reducible repeat (first | refine blk_drewN ?_ _ | refine blk_drew ?_ | refine blk_alloc ?_ _)); exact BK148.out) hb); have n1_ := Aside0.mk (below_step (by repeat (first | (with_reducible first | exact HB.out | apply below_alloc | apply pw_below_drewN | apply below_drew1 | refine below_set ?_ GE148.out) | exact HB.out)) hb); have n2_ := Aside0.mk (hbox); have n3_ := Aside0.mk ((by rw [hg]; exact (below_size (by repeat (first | (with_reducible first | exact HB.out | apply below_alloc | apply pw_below_drewN | apply below_drew1 | refine below_set ?_ GE148.out) | exact HB.out))) : w.heap.size ≤ gb149)); have n4_ := Aside0.mk ((by rw [hg]; exact (below_size (by repeat (first | (with_reducible first | exact HB.out | apply below_alloc | apply pw_below_drewN | apply below_drew1 | refine below_set ?_ GE148.out) | exact HB.out))) : w.heap.size ≤ gb149)); have n5_ := Aside0.mk ((by rw [hg]; exact Nat.ne_of_lt (blk_lt (g := gb148) (o := .cells #[.int .i64 a0_0, .int .i64 a0_1, .string a0_2, .string a0_3, .slice A0_4 l0_4.length c0_4, .slice A0_5 l0_5.length c0_5] 27 (0, 0)) (by (with_reducible repeat (first | refine blk_drewN ?_ _ | refine blk_drew ?_ | refine blk_alloc ?_ _)); exact BK148.out)) : gb148 ≠ gb149)); have n6_ := Aside0.mk ((by rw [hg]; exact Nat.ne_of_gt (blk_lt (g := gb148) (o := .cells #[.int .i64 a0_0, .int .i64 a0_1, .string a0_2, .string a0_3, .slice A0_4 l0_4.length c0_4, .slice A0_5 l0_5.length c0_5] 27 (0, 0)) (by (with_reducible repeat (first | refine blk_drewN ?_ _ | refine blk_drew ?_ | refine blk_alloc ?_ _)); exact BK148.out)) : gb149 ≠ gb148)); clear BK148; clear HB; have BK148 := n0_; have HB := n1_; have BK149 := n2_; have GW149 := n3_; have GE149 := n4_; have NB148_149 := n5_; have NB149_148 := n6_; clear n0_ n1_ n2_ n3_ n4_ n5_ n6_; clear hb hbox hg) | ((with_reducible refine gate_dst (N := 6) rfl ?_); refine Kd.R_lit k99 _ 99 ?hg (N := 6) ?hd (xs := ([] : List (S99))) (inner := []) (ok := fun _ => True) (okp := fun _ => True) ?hr ?hp (fun _ hk => hk) trivial (Below.refl _ _) (Nat.le_refl _) (by simp) ?_; (case hd => rfl); (case hg => rfl); (case hr => first | (go_simp; done) | (go_simp; rfl)); (case hp => exact (Reps.none _ _)); intro v151 w7 ho8 hb hg_ hnew_; clear hg_ hnew_; (first | rw [← Ny150.out] at ho8 | (simp only [Int.reduceToNat] at ho8; rw [← Ny150.out] at ho8)); have n0_ := Aside0.mk (Kd.R_lower ho8 (below_size (by repeat (first | (with_reducible first | exact HB.out | apply below_alloc | apply pw_below_drewN | apply below_drew1 | refine below_set ?_ GE148.out | refine below_set ?_ GE149.out) | exact HB.out)))); have n1_ := Aside0.mk (blk_below (g := gb148) (o := .cells #[.int .i64 a0_0, .int .i64 a0_1, .string a0_2, .string a0_3, .slice A0_4 l0_4.length c0_4, .slice A0_5 l0_5.length c0_5] 27 (0, 0)) (by (with_reducible repeat (first | refine blk_drewN ?_ _ | refine blk_drew ?_ | refine blk_alloc ?_ _)); exact BK148.out) hb); have n2_ := Aside0.mk (blk_below (g := gb149) (o := .cells #[.int .i64 0, .int .i64 0, .string (⟨#[]⟩ : ByteArray), .string (⟨#[]⟩ : ByteArray), .slice none 0 0, .slice none 0 0] 27 (0, 0)) (by (with_reducible repeat (first | refine blk_drewN ?_ _ | refine blk_drew ?_ | refine blk_alloc ?_ _)); exact BK149.out) hb); have n3_ := Aside0.mk (below_step (by repeat (first | (with_reducible first | exact HB.out | apply below_alloc | apply pw_below_drewN | apply below_drew1 | refine below_set ?_ GE148.out | refine below_set ?_ GE149.out) | exact HB.out)) hb); clear BK148; clear BK149; clear HB; have HO152 := n0_; have BK148 := n1_; have BK149 := n2_; have HB := n3_; clear n0_ n1_ n2_ n3_; clear hb ho8; have hnb9 := NB148_149.out; have hnc9 := NB149_148.out; have hcz10_0 : w7.cell? ⟨gb148, 0, none⟩ = some (.int .i64 a0_0) := (blk_cell BK148.out 0).trans rfl; have hcz10_1 : w7.cell? ⟨gb148, 1, none⟩ = some (.int .i64 a0_1) := (blk_cell BK148.out 1).trans rfl; have hcz10_2 : w7.cell? ⟨gb148, 2, none⟩ = some (.string a0_2) := (blk_cell BK148.out 2).trans rfl; have hcz10_3 : w7.cell? ⟨gb148, 3, none⟩ = some (.string a0_3) := (blk_cell BK148.out 3).trans rfl; have hcz10_4 : w7.cell? ⟨gb148, 4, none⟩ = some (.slice A0_4 l0_4.length c0_4) := (blk_cell BK148.out 4).trans rfl; have hcz10_5 : w7.cell? ⟨gb148, 5, none⟩ = some (.slice A0_5 l0_5.length c0_5) := (blk_cell BK148.out 5).trans rfl; have hfz10_0 := blk_frozen BK148.out 0; have hfz10_1 := blk_frozen BK148.out 1; have hfz10_2 := blk_frozen BK148.out 2; have hfz10_3 := blk_frozen BK148.out 3; have hfz10_4 := blk_frozen BK148.out 4; have hfz10_5 := blk_frozen BK148.out 5) | ((with_reducible refine gate_builtin (b := .append) (xs := #[.tmp 6, .tmp 8]) rfl ?_); at_builtin; refine Kd.R_append_rows k99 (w0 := w) w.heap.size rfl (.tmp 6) (.tmp 8) 24 99 (.agg #[(.string ⟨#[]⟩), (.string ⟨#[]⟩)]) 32 rfl Try.underlying24 info99 rfl (by decide) (by omega) v151 y150 l0_4 _ _ _ (fun _ => True) (fun _ => False) rfl rfl ?aO ?aR (fun _ _ h => h) (fun _ h => h.elim) ?aF ?aB ?aS ?aL ?_; (case aR => repeat (first | exact (Kd.C_below HR0_4.out HB.out) | (with_reducible refine Kd.C_alloc ?_ _) | (with_reducible refine Kd.C_drewN ?_ _) | (with_reducible refine Kd.C_drew ?_))); (case aB => exact (by repeat (first | (with_reducible first | exact HB.out | apply below_alloc | apply pw_below_drewN | apply below_drew1 | refine below_set ?_ GE148.out | refine below_set ?_ GE149.out) | exact HB.out))); (case aF => exact (fun _ _ => trivial)); (case aO => exact (by (with_reducible repeat (first | apply Kd.R_alloc | apply Kd.R_drewN | apply Kd.R_drew)); exact HO152.out)); (case aS => exact (below_size (by repeat (first | (with_reducible first | exact HB.out | apply below_alloc | apply pw_below_drewN | apply below_drew1 | refine below_set ?_ GE148.out | refine below_set ?_ GE149.out) | exact HB.out)))); (case aL => have := LMc2.out; omega); intro v154 w11 ho hb hg hat; rw [← Ny153.out] at ho; have n0_ := Aside0.mk (blk_grown (g := gb148) (o := .cells #[.int .i64 a0_0, .int .i64 a0_1, .string a0_2, .string a0_3, .slice A0_4 l0_4.length c0_4, .slice A0_5 l0_5.length c0_5] 27 (0, 0)) (by (with_reducible repeat (first | refine blk_drewN ?_ _ | refine blk_drew ?_ | refine blk_alloc ?_ _)); exact BK148.out) hg (Kd.R_ne HO152.out BK148.out (by decide))); have n1_ := Aside0.mk (blk_grown (g := gb149) (o := .cells #[.int .i64 0, .int .i64 0, .string (⟨#[]⟩ : ByteArray), .string (⟨#[]⟩ : ByteArray), .slice none 0 0, .slice none 0 0] 27 (0, 0)) (by (with_reducible repeat (first | refine blk_drewN ?_ _ | refine blk_drew ?_ | refine blk_alloc ?_ _)); exact BK149.out) hg (Kd.R_ne HO152.out BK149.out (by decide))); have n2_ := Aside0.mk (hb); have n3_ := Aside0.mk (ho); clear BK148; clear BK149; clear HB; clear HO152; have BK148 := n0_; have BK149 := n1_; have HB := n2_; have HO155 := n3_; clear n0_ n1_ n2_ n3_; clear ho hb hg hat; obtain ⟨Ao12, co12, eo12⟩ := Kd.R_slice HO155.out; subst eo12; have hcz13_0 : w11.cell? ⟨gb148, 0, none⟩ = some (.int .i64 a0_0) := (blk_cell BK148.out 0).trans rfl; have hcz13_1 : w11.cell? ⟨gb148, 1, none⟩ = some (.int .i64 a0_1) := (blk_cell BK148.out 1).trans rfl; have hcz13_2 : w11.cell? ⟨gb148, 2, none⟩ = some (.string a0_2) := (blk_cell BK148.out 2).trans rfl; have hcz13_3 : w11.cell? ⟨gb148, 3, none⟩ = some (.string a0_3) := (blk_cell BK148.out 3).trans rfl; have hcz13_4 : w11.cell? ⟨gb148, 4, none⟩ = some (.slice A0_4 l0_4.length c0_4) := (blk_cell BK148.out 4).trans rfl; have hcz13_5 : w11.cell? ⟨gb148, 5, none⟩ = some (.slice A0_5 l0_5.length c0_5) := (blk_cell BK148.out 5).trans rfl; have hfz13_0 := blk_frozen BK148.out 0; have hfz13_1 := blk_frozen BK148.out 1; have hfz13_2 := blk_frozen BK148.out 2; have hfz13_3 := blk_frozen BK148.out 3; have hfz13_4 := blk_frozen BK148.out 4; have hfz13_5 := blk_frozen BK148.out 5) | ((with_reducible refine gate_dst (N := 14) rfl ?_); refine Kd.R_make0 k27 _ 27 rfl (N := 14) rfl 25 _ _ rfl (l0_5.length : Int) rfl rfl Try.underlying25 (.agg #[(.int .i64 0), (.int .i64 0), (.string ⟨#[]⟩), (.string ⟨#[]⟩), (.slice none 0 0), (.slice none 0 0)]) 96 info27 rfl (by decide) z27 (ok := fun _ => True) trivial (of_decide_eq_true (by first | (with_reducible assumption) | assumption)) (Nat.le_trans (Nat.mul_le_mul_right _ (of_decide_eq_true (by first | (with_reducible assumption) | assumption) : ((l0_5.length : Int) : Int).toNat ≤ 2932031007402)) (by omega)) (Below.refl _ _) (Nat.le_refl _) ?_; intro v157 w14 ho15 hb hg_ hnew_; clear hg_ hnew_; (first | rw [← Ny156.out] at ho15 | (simp only [Int.reduceToNat] at ho15; rw [← Ny156.out] at ho15)); have n0_ := Aside0.mk (Kd.R_below (by (with_reducible repeat (first | apply Kd.R_alloc | apply Kd.R_drewN | apply Kd.R_drew)); exact (Kd.R_mono (Kd.R_far (p := ⟨gb148, 4, none⟩) (Kd.R_types HO155.out BK148.out (by decide)) (fun _ hk => hk.2) (.slice Ao12 y153.length co12)) (fun _ h_ => h_.1))) hb); have n1_ := Aside0.mk (Kd.R_lower (Kd.R_newB (Kd.R_newB (Kd.R_new' ho15 (Kd.R_lt (by (with_reducible repeat (first | apply Kd.R_alloc | apply Kd.R_drewN | apply Kd.R_drew)); exact (Kd.R_mono (Kd.R_far (p := ⟨gb148, 4, none⟩) (Kd.R_types HO155.out BK148.out (by decide)) (fun _ hk => hk.2) (.slice Ao12 y153.length co12)) (fun _ h_ => h_.1))))) (g := gb148) (o := .cells #[.int .i64 a0_0, .int .i64 a0_1, .string a0_2, .string a0_3, .slice Ao12 y153.length co12, .slice A0_5 l0_5.length c0_5] 27 (0, 0)) (by (with_reducible repeat (first | refine blk_drewN ?_ _ | refine blk_drew ?_ | refine blk_alloc ?_ _)); refine blk_put (cs := #[.int .i64 a0_0, .int .i64 a0_1, .string a0_2, .string a0_3, .slice A0_4 l0_4.length c0_4, .slice A0_5 l0_5.length c0_5]) ?_ 4 _ rfl; (with_reducible repeat (first | refine blk_drewN ?_ _ | refine blk_drew ?_ | refine blk_alloc ?_ _)); exact BK148.out)) (g := gb149) (o := .cells #[.int .i64 0, .int .i64 0, .string (⟨#[]⟩ : ByteArray), .string (⟨#[]⟩ : ByteArray), .slice none 0 0, .slice none 0 0] 27 (0, 0)) (by (with_reducible repeat (first | refine blk_drewN ?_ _ | refine blk_drew ?_ | refine blk_alloc ?_ _)); refine blk_far ?_ NB149_148.out _; (with_reducible repeat (first | refine blk_drewN ?_ _ | refine blk_drew ?_ | refine blk_alloc ?_ _)); exact BK149.out)) (below_size (by repeat (first | (with_reducible first | exact HB.out | apply below_alloc | apply pw_below_drewN | apply below_drew1 | refine below_set ?_ GE148.out | refine below_set ?_ GE149.out) | exact HB.out)))); have n2_ := Aside0.mk (blk_below (g := gb148) (o := .cells #[.int .i64 a0_0, .int .i64 a0_1, .string a0_2, .string a0_3, .slice Ao12 y153.length co12, .slice A0_5 l0_5.length c0_5] 27 (0, 0)) (by (with_reducible repeat (first | refine blk_drewN ?_ _ | refine blk_drew ?_ | refine blk_alloc ?_ _)); refine blk_put (cs := #[.int .i64 a0_0, .int .i64 a0_1, .string a0_2, .string a0_3, .slice A0_4 l0_4.length c0_4, .slice A0_5 l0_5.length c0_5]) ?_ 4 _ rfl; (with_reducible repeat (first | refine blk_drewN ?_ _ | refine blk_drew ?_ | refine blk_alloc ?_ _)); exact BK148.out) hb); have n3_ := Aside0.mk (blk_below (g := gb149) (o := .cells #[.int .i64 0, .int .i64 0, .string (⟨#[]⟩ : ByteArray), .string (⟨#[]⟩ : ByteArray), .slice none 0 0, .slice none 0 0] 27 (0, 0)) (by (with_reducible repeat (first | refine blk_drewN ?_ _ | refine blk_drew ?_ | refine blk_alloc ?_ _)); refine blk_far ?_ NB149_148.out _; (with_reducible repeat (first | refine blk_drewN ?_ _ | refine blk_drew ?_ | refine blk_alloc ?_ _)); exact BK149.out) hb); have n4_ := Aside0.mk (below_step (by repeat (first | (with_reducible first | exact HB.out | apply below_alloc | apply pw_below_drewN | apply below_drew1 | refine below_set ?_ GE148.out | refine below_set ?_ GE149.out) | exact HB.out)) hb); clear HO155; clear BK148; clear BK149; clear HB; have HO155 := n0_; have HO158 := n1_; have BK148 := n2_; have BK149 := n3_; have HB := n4_; clear n0_ n1_ n2_ n3_ n4_; clear hb ho15; have hcz16_0 : w14.cell? ⟨gb148, 0, none⟩ = some (.int .i64 a0_0) := (blk_cell BK148.out 0).trans rfl; have hcz16_1 : w14.cell? ⟨gb148, 1, none⟩ = some (.int .i64 a0_1) := (blk_cell BK148.out 1).trans rfl; have hcz16_2 : w14.cell? ⟨gb148, 2, none⟩ = some (.string a0_2) := (blk_cell BK148.out 2).trans rfl; have hcz16_3 : w14.cell? ⟨gb148, 3, none⟩ = some (.string a0_3) := (blk_cell BK148.out 3).trans rfl; have hcz16_4 : w14.cell? ⟨gb148, 4, none⟩ = some (.slice Ao12 y153.length co12) := (blk_cell BK148.out 4).trans rfl; have hcz16_5 : w14.cell? ⟨gb148, 5, none⟩ = some (.slice A0_5 l0_5.length c0_5) := (blk_cell BK148.out 5).trans rfl; have hfz16_0 := blk_frozen BK148.out 0; have hfz16_1 := blk_frozen BK148.out 1; have hfz16_2 := blk_frozen BK148.out 2; have hfz16_3 := blk_frozen BK148.out 3; have hfz16_4 := blk_frozen BK148.out 4; have hfz16_5 := blk_frozen BK148.out 5))
        go_loopg [3, 18] k (fun kq v3 v18 w' => ∃ (x3_1 : List (S27)) (x18_1 : Int), v18 = .int .i64 x18_1 ∧ Aside0 (vtree_Copy.l0 kq x3_1 l0_5 (l0_5.length : Int) x18_1 a0_0 a0_1 a0_2 a0_3 y153 l0_5 = some (r1, r2, r3, r4, r5, r6)) ∧ Aside0 (kq ≤ k) ∧ Aside0 (Kd.R k27 27 w' w.heap.size (fun k_ => some k_ ≠ ((.slice Ao12 y153.length co12) : Value).ownBlock ∧ k_ ≠ gb148 ∧ k_ ≠ gb149) v3 x3_1) ∧ Aside0 (Kd.R k99 99 w' w.heap.size (fun _ => True) (.slice Ao12 y153.length co12) y153) ∧ Aside0 (w'.heap[gb148]? = some (.cells #[.int .i64 a0_0, .int .i64 a0_1, .string a0_2, .string a0_3, (.slice Ao12 y153.length co12), (.slice A0_5 l0_5.length c0_5)] 27 (0, 0))) ∧ Aside0 (w'.heap[gb149]? = some (.cells #[.int .i64 0, .int .i64 0, .string (⟨#[]⟩ : ByteArray), .string (⟨#[]⟩ : ByteArray), (.slice none 0 0), (.slice none 0 0)] 27 (0, 0))) ∧ Aside0 (Below w.heap.size w w'))
        case atStart => exact ⟨(y156), (0), (by first | rfl | (simp; done) | (simp [*]; done)), H', ⟨Nat.le_refl _⟩, ⟨by (with_reducible repeat (first | apply Kd.R_alloc | apply Kd.R_drewN | apply Kd.R_drew)); exact Kd.R_mono HO158.out (fun _ hk => ⟨hk.1.1.2, ⟨hk.1.2, hk.2⟩⟩)⟩, ⟨by (with_reducible repeat (first | apply Kd.R_alloc | apply Kd.R_drewN | apply Kd.R_drew)); exact HO155.out⟩, ⟨by (with_reducible repeat (first | refine blk_drewN ?_ _ | refine blk_drew ?_ | refine blk_alloc ?_ _)); exact BK148.out⟩, ⟨by (with_reducible repeat (first | refine blk_drewN ?_ _ | refine blk_drew ?_ | refine blk_alloc ?_ _)); exact BK149.out⟩, ⟨by repeat (first | (with_reducible first | exact HB.out | apply below_alloc | apply pw_below_drewN | apply below_drew1 | refine below_set ?_ GE148.out | refine below_set ?_ GE149.out) | exact HB.out)⟩⟩
        case round =>
          clear H'
          try clear c2
          try clear p2
          try clear c3
          try clear c3b0
          try clear c3b1
          try clear c4
          try clear c4b0
          try clear c4b1
          try clear c9
          try clear hcz10_0
          try clear hcz10_1
          try clear hcz10_2
          try clear hcz10_3
          try clear hcz10_4
          try clear hcz10_5
          try clear hcz13_0
          try clear hcz13_1
          try clear hcz13_2
          try clear hcz13_3
          try clear hcz13_4
          try clear hcz13_5
          try clear hcz16_0
          try clear hcz16_1
          try clear hcz16_2
          try clear hcz16_3
          try clear hcz16_4
          try clear hcz16_5
          try clear hfz10_0
          try clear hfz10_1
          try clear hfz10_2
          try clear hfz10_3
          try clear hfz10_4
          try clear hfz10_5
          try clear hfz13_0
          try clear hfz13_1
          try clear hfz13_2
          try clear hfz13_3
          try clear hfz13_4
          try clear hfz13_5
          try clear hfz16_0
          try clear hfz16_1
          try clear hfz16_2
          try clear hfz16_3
          try clear hfz16_4
          try clear hfz16_5
          obtain ⟨x3_1, x18_1, rfl, HA, HK1, HO_3, HO_149004, BK148, BK149, HB⟩ := hrel
          cases gk with
          | zero => exact absurd HA.out (by simp [vtree_Copy.l0])
          | succ k1 =>
            have H := HA.out
            clear HA
            simp only [vtree_Copy.l0] at H
            by_cases c17 : x18_1 < (l0_5.length : Int)
            · rw [if_pos c17] at H
              have c17b0 : decide (x18_1 < (l0_5.length : Int)) = true := decide_eq_true c17
              clear c17
              by_cases c18 : 0 ≤ x18_1
              · rw [if_pos c18] at H
                have c18b0 : decide (0 ≤ x18_1) = true := decide_eq_true c18
                clear c18
                by_cases c19 : x18_1 < (l0_5.length : Int)
                · rw [if_pos c19] at H
                  have c19b0 : decide (x18_1 < (l0_5.length : Int)) = true := decide_eq_true c19
                  clear c19
                  replace H := Option.bind_eq_some_iff.mp H
                  obtain ⟨⟨t161, t162, t163, t164, t165, t168⟩, A200, H⟩ := H
                  replace H : (if x3_1.length < 1466015503701 then (vtree_Copy.l0 k1 (x3_1 ++ [(⟨(⟨t161, t162⟩ : S23), t163, t164, t165, t168⟩ : S27)]) l0_5 (l0_5.length : Int) (wrap64 (x18_1 + 1)) a0_0 a0_1 a0_2 a0_3 y153 l0_5) else (none)) = some (r1, r2, r3, r4, r5, r6) := H
                  have A20 := Aside0.mk A200
                  clear A200
                  by_cases c21 : x3_1.length < 1466015503701
                  · rw [if_pos c21] at H
                    have LMc21 := Aside0.mk c21
                    clear c21
                    obtain ⟨y171, hy171⟩ : ∃ y_ : List (S27), y_ = (x3_1 ++ [(⟨(⟨t161, t162⟩ : S23), t163, t164, t165, t168⟩ : S27)]) := ⟨_, rfl⟩
                    replace H : (vtree_Copy.l0 k1 y171 l0_5 (l0_5.length : Int) (wrap64 (x18_1 + 1)) a0_0 a0_1 a0_2 a0_3 y153 l0_5) = some (r1, r2, r3, r4, r5, r6) := by first | (rw [hy171]; with_reducible exact H) | (have H2_ := (Option.bind_some _ _).symm.trans H; rw [hy171]; with_reducible exact H2_) | (have H2_ := (Option.bind_some _ _).symm.trans H; with_reducible exact H2_) | with_reducible exact H | (rw [hy171]; exact H) | exact H
                    have Ny171 := Aside0.mk hy171
                    clear hy171
                    have H' := Aside0.mk H
                    clear H
                    have p159 : 0 ≤ (x18_1 : Int) := of_decide_eq_true (by first | (with_reducible assumption) | assumption)
                    have q159 : x18_1 < (l0_5.length : Int) := of_decide_eq_true (by first | (with_reducible assumption) | assumption)
                    obtain ⟨ad159, A159_4, c159_4, A159_5, c159_5, e159, hx159_0, hx159_1, hx159_2, hx159_3, hx159_4, hx159_5, hl159_4, hi159_4, hl159_5, hi159_5⟩ := at_T27 HR0_5.out x18_1 p159 q159
                    cases e159
                    replace hx159_0 := (HB.out.cell (World.block_lt_of_cell? w _ hx159_0)).trans hx159_0
                    replace hx159_1 := (HB.out.cell (World.block_lt_of_cell? w _ hx159_1)).trans hx159_1
                    replace hx159_2 := (HB.out.cell (World.block_lt_of_cell? w _ hx159_2)).trans hx159_2
                    replace hx159_3 := (HB.out.cell (World.block_lt_of_cell? w _ hx159_3)).trans hx159_3
                    replace hx159_4 := (HB.out.cell (World.block_lt_of_cell? w _ hx159_4)).trans hx159_4
                    replace hx159_5 := (HB.out.cell (World.block_lt_of_cell? w _ hx159_5)).trans hx159_5
                    have HR159_4 := Aside0.mk hi159_4
                    have HC159_4 := Aside0.mk hl159_4
                    clear hi159_4 hl159_4
                    have HR159_5 := Aside0.mk hi159_5
                    have HC159_5 := Aside0.mk hl159_5
                    clear hi159_5 hl159_5
                    replace p159 := eq_true p159
                    replace q159 := eq_true q159
                    go_wp2_with (first | ((with_reducible refine gate_dst (N := 5) rfl ?_); refine box_event ?hg (N := 5) ?hd (cs := #[.int .i64 0, .int .i64 0, .string (⟨#[]⟩ : ByteArray), .string (⟨#[]⟩ : ByteArray), .slice none 0 0, .slice none 0 0]) (t := 27) ?hr ?_; (case hd => rfl); (case hg => rfl); (case hr => first | (go_simp; done) | (go_simp; rfl)); intro gb160 hg w22 hbox hb; have n0_ := Aside0.mk (Kd.R_below (Kd.R_elderB (by (with_reducible repeat (first | apply Kd.R_alloc | apply Kd.R_drewN | apply Kd.R_drew)); exact HO_3.out) gb160 (Nat.le_of_eq hg.symm)) hb); have n1_ := Aside0.mk (Kd.R_below (by (with_reducible repeat (first | apply Kd.R_alloc | apply Kd.R_drewN | apply Kd.R_drew)); exact HO_149004.out) hb); have n2_ := Aside0.mk (blk_below (g := gb148) (o := .cells #[.int .i64 a0_0, .int .i64 a0_1, .string a0_2, .string a0_3, .slice Ao12 y153.length co12, .slice (some ad159) l0_5.length c0_5] 27 (0, 0)) (by (with_reducible repeat (first | refine blk_drewN ?_ _ | refine blk_drew ?_ | refine blk_alloc ?_ _)); exact BK148.out) hb); have n3_ := Aside0.mk (blk_below (g := gb149) (o := .cells #[.int .i64 0, .int .i64 0, .string (⟨#[]⟩ : ByteArray), .string (⟨#[]⟩ : ByteArray), .slice none 0 0, .slice none 0 0] 27 (0, 0)) (by (with_reducible repeat (first | refine blk_drewN ?_ _ | refine blk_drew ?_ | refine blk_alloc ?_ _)); exact BK149.out) hb); have n4_ := Aside0.mk (below_step (by repeat (first | (with_reducible first | exact HB.out | apply below_alloc | apply pw_below_drewN | apply below_drew1 | refine below_set ?_ GE148.out | refine below_set ?_ GE149.out) | exact HB.out)) hb); have n5_ := Aside0.mk (hbox); have n6_ := Aside0.mk ((by rw [hg]; exact (below_size (by repeat (first | (with_reducible first | exact HB.out | apply below_alloc | apply pw_below_drewN | apply below_drew1 | refine below_set ?_ GE148.out | refine below_set ?_ GE149.out) | exact HB.out))) : w.heap.size ≤ gb160)); have n7_ := Aside0.mk ((by rw [hg]; exact (below_size (by repeat (first | (with_reducible first | exact HB.out | apply below_alloc | apply pw_below_drewN | apply below_drew1 | refine below_set ?_ GE148.out | refine below_set ?_ GE149.out) | exact HB.out))) : w.heap.size ≤ gb160)); have n8_ := Aside0.mk ((by rw [hg]; exact Nat.ne_of_lt (blk_lt (g := gb148) (o := .cells #[.int .i64 a0_0, .int .i64 a0_1, .string a0_2, .string a0_3, .slice Ao12 y153.length co12, .slice (some ad159) l0_5.length c0_5] 27 (0, 0)) (by (with_reducible repeat (first | refine blk_drewN ?_ _ | refine blk_drew ?_ | refine blk_alloc ?_ _)); exact BK148.out)) : gb148 ≠ gb160)); have n9_ := Aside0.mk ((by rw [hg]; exact Nat.ne_of_gt (blk_lt (g := gb148) (o := .cells #[.int .i64 a0_0, .int .i64 a0_1, .string a0_2, .string a0_3, .slice Ao12 y153.length co12, .slice (some ad159) l0_5.length c0_5] 27 (0, 0)) (by (with_reducible repeat (first | refine blk_drewN ?_ _ | refine blk_drew ?_ | refine blk_alloc ?_ _)); exact BK148.out)) : gb160 ≠ gb148)); have n10_ := Aside0.mk ((by rw [hg]; exact Nat.ne_of_lt (blk_lt (g := gb149) (o := .cells #[.int .i64 0, .int .i64 0, .string (⟨#[]⟩ : ByteArray), .string (⟨#[]⟩ : ByteArray), .slice none 0 0, .slice none 0 0] 27 (0, 0)) (by (with_reducible repeat (first | refine blk_drewN ?_ _ | refine blk_drew ?_ | refine blk_alloc ?_ _)); exact BK149.out)) : gb149 ≠ gb160)); have n11_ := Aside0.mk ((by rw [hg]; exact Nat.ne_of_gt (blk_lt (g := gb149) (o := .cells #[.int .i64 0, .int .i64 0, .string (⟨#[]⟩ : ByteArray), .string (⟨#[]⟩ : ByteArray), .slice none 0 0, .slice none 0 0] 27 (0, 0)) (by (with_reducible repeat (first | refine blk_drewN ?_ _ | refine blk_drew ?_ | refine blk_alloc ?_ _)); exact BK149.out)) : gb160 ≠ gb149)); clear HO_3; clear HO_149004; clear BK148; clear BK149; clear HB; have HO_3 := n0_; have HO_149004 := n1_; have BK148 := n2_; have BK149 := n3_; have HB := n4_; have BK160 := n5_; have GW160 := n6_; have GE160 := n7_; have NB148_160 := n8_; have NB160_148 := n9_; have NB149_160 := n10_; have NB160_149 := n11_; clear n0_ n1_ n2_ n3_ n4_ n5_ n6_ n7_ n8_ n9_ n10_ n11_; clear hb hbox hg; have hnb23 := NB160_148.out; have hnc23 := NB148_160.out; have hnb24 := NB160_149.out; have hnc24 := NB149_160.out; have hcz25_0 : w22.cell? ⟨gb160, 0, none⟩ = some (.int .i64 0) := (blk_cell BK160.out 0).trans rfl; have hcz25_1 : w22.cell? ⟨gb160, 1, none⟩ = some (.int .i64 0) := (blk_cell BK160.out 1).trans rfl; have hcz25_2 : w22.cell? ⟨gb160, 2, none⟩ = some (.string (⟨#[]⟩ : ByteArray)) := (blk_cell BK160.out 2).trans rfl; have hcz25_3 : w22.cell? ⟨gb160, 3, none⟩ = some (.string (⟨#[]⟩ : ByteArray)) := (blk_cell BK160.out 3).trans rfl; have hcz25_4 : w22.cell? ⟨gb160, 4, none⟩ = some (.slice none 0 0) := (blk_cell BK160.out 4).trans rfl; have hcz25_5 : w22.cell? ⟨gb160, 5, none⟩ = some (.slice none 0 0) := (blk_cell BK160.out 5).trans rfl; have hfz25_0 := blk_frozen BK160.out 0; have hfz25_1 := blk_frozen BK160.out 1; have hfz25_2 := blk_frozen BK160.out 2; have hfz25_3 := blk_frozen BK160.out 3; have hfz25_4 := blk_frozen BK160.out 4; have hfz25_5 := blk_frozen BK160.out 5) | ((with_reducible refine gate_callee (f := 25) rfl ?_); refine goesL_ (some 24) rfl rfl Try.func25 (by kernel_rfl) rfl #[.agg #[.int .i64 ((rd_T27 l0_5 x18_1).f0.f0), .int .i64 ((rd_T27 l0_5 x18_1).f0.f1), .string ((rd_T27 l0_5 x18_1).f1), .string ((rd_T27 l0_5 x18_1).f2), .slice A159_4 ((rd_T27 l0_5 x18_1).f3).length c159_4, .slice A159_5 ((rd_T27 l0_5 x18_1).f4).length c159_5]] rfl (by (try simp only [List.map_toArray, List.map_cons, List.map_nil]); first | done | rfl | (simp only [List.length_drop, List.length_take]; rfl)) ?_; (with_reducible refine (ih k1 (by have := HK1.out; omega) ((rd_T27 l0_5 x18_1).f0.f0) ((rd_T27 l0_5 x18_1).f0.f1) ((rd_T27 l0_5 x18_1).f1) ((rd_T27 l0_5 x18_1).f2) _ _ ((rd_T27 l0_5 x18_1).f3) _ _ ((rd_T27 l0_5 x18_1).f4) t161 t162 t163 t164 t165 t168 _ ?side1 ?side2 ?side3 ?side4 A20.out).mono ?_); (case side1 => exact Kd.C_below HR159_4.out (by repeat (first | (with_reducible first | exact HB.out | apply below_alloc | apply pw_below_drewN | apply below_drew1 | refine below_set ?_ GE148.out | refine below_set ?_ GE149.out | refine below_set ?_ GE160.out) | exact HB.out))); (case side2 => exact HC159_4.out); (case side3 => exact Kd.C_below HR159_5.out (by repeat (first | (with_reducible first | exact HB.out | apply below_alloc | apply pw_below_drewN | apply below_drew1 | refine below_set ?_ GE148.out | refine below_set ?_ GE149.out | refine below_set ?_ GE160.out) | exact HB.out))); (case side4 => exact HC159_5.out); rintro e w26 ⟨v166, v169, rfl, ho0, ho1, hb⟩; refine ⟨_, rfl, ?_⟩; have n0_ := Aside0.mk (Kd.R_mono (Kd.R_told (Kd.R_told (Kd.R_old (by (with_reducible repeat (first | apply Kd.R_alloc | apply Kd.R_drewN | apply Kd.R_drew)); exact (Kd.R_mono (Kd.R_far (p := ⟨gb160, 5, none⟩) (Kd.R_far (p := ⟨gb160, 4, none⟩) (Kd.R_far (p := ⟨gb160, 3, none⟩) (Kd.R_far (p := ⟨gb160, 2, none⟩) (Kd.R_far (p := ⟨gb160, 1, none⟩) (Kd.R_far (p := ⟨gb160, 0, none⟩) (Kd.R_mono HO_3.out (fun k_ hk => (⟨hk, hk.2⟩ : _ ∧ k_ ≠ gb160))) (fun _ hk => hk.2) (.int .i64 ((rd_T27 l0_5 x18_1).f0.f0))) (fun _ hk => hk.2) (.int .i64 ((rd_T27 l0_5 x18_1).f0.f1))) (fun _ hk => hk.2) (.string ((rd_T27 l0_5 x18_1).f1))) (fun _ hk => hk.2) (.string ((rd_T27 l0_5 x18_1).f2))) (fun _ hk => hk.2) (.slice A159_4 ((rd_T27 l0_5 x18_1).f3).length c159_4)) (fun _ hk => hk.2) (.slice A159_5 ((rd_T27 l0_5 x18_1).f4).length c159_5)) (fun _ h_ => h_.1))) hb) (Kd.R_base ho0)) (Kd.R_base ho1)) (fun _ h_ => h_.1)); have n1_ := Aside0.mk (Kd.R_elder' (by (with_reducible repeat (first | apply Kd.R_alloc | apply Kd.R_drewN | apply Kd.R_drew)); exact (Kd.R_mono (Kd.R_far (p := ⟨gb160, 5, none⟩) (Kd.R_far (p := ⟨gb160, 4, none⟩) (Kd.R_far (p := ⟨gb160, 3, none⟩) (Kd.R_far (p := ⟨gb160, 2, none⟩) (Kd.R_far (p := ⟨gb160, 1, none⟩) (Kd.R_far (p := ⟨gb160, 0, none⟩) (Kd.R_types HO_149004.out BK160.out (by decide)) (fun _ hk => hk.2) (.int .i64 ((rd_T27 l0_5 x18_1).f0.f0))) (fun _ hk => hk.2) (.int .i64 ((rd_T27 l0_5 x18_1).f0.f1))) (fun _ hk => hk.2) (.string ((rd_T27 l0_5 x18_1).f1))) (fun _ hk => hk.2) (.string ((rd_T27 l0_5 x18_1).f2))) (fun _ hk => hk.2) (.slice A159_4 ((rd_T27 l0_5 x18_1).f3).length c159_4)) (fun _ hk => hk.2) (.slice A159_5 ((rd_T27 l0_5 x18_1).f4).length c159_5)) (fun _ h_ => h_.1))) (Kd.R_base ho0) hb); have n2_ := Aside0.mk (Kd.R_lower (Kd.R_new' ho0 (Kd.R_lt (by (with_reducible repeat (first | apply Kd.R_alloc | apply Kd.R_drewN | apply Kd.R_drew)); exact (Kd.R_mono (Kd.R_far (p := ⟨gb160, 5, none⟩) (Kd.R_far (p := ⟨gb160, 4, none⟩) (Kd.R_far (p := ⟨gb160, 3, none⟩) (Kd.R_far (p := ⟨gb160, 2, none⟩) (Kd.R_far (p := ⟨gb160, 1, none⟩) (Kd.R_far (p := ⟨gb160, 0, none⟩) (Kd.R_types HO_149004.out BK160.out (by decide)) (fun _ hk => hk.2) (.int .i64 ((rd_T27 l0_5 x18_1).f0.f0))) (fun _ hk => hk.2) (.int .i64 ((rd_T27 l0_5 x18_1).f0.f1))) (fun _ hk => hk.2) (.string ((rd_T27 l0_5 x18_1).f1))) (fun _ hk => hk.2) (.string ((rd_T27 l0_5 x18_1).f2))) (fun _ hk => hk.2) (.slice A159_4 ((rd_T27 l0_5 x18_1).f3).length c159_4)) (fun _ hk => hk.2) (.slice A159_5 ((rd_T27 l0_5 x18_1).f4).length c159_5)) (fun _ h_ => h_.1))))) (below_size (by repeat (first | (with_reducible first | exact HB.out | apply below_alloc | apply pw_below_drewN | apply below_drew1 | refine below_set ?_ GE148.out | refine below_set ?_ GE149.out | refine below_set ?_ GE160.out) | exact HB.out)))); have n3_ := Aside0.mk (Kd.R_lower (Kd.R_newB (Kd.R_newB (Kd.R_newB (Kd.R_new' (Kd.R_new' ho1 (Kd.R_lt (by (with_reducible repeat (first | apply Kd.R_alloc | apply Kd.R_drewN | apply Kd.R_drew)); exact (Kd.R_mono (Kd.R_far (p := ⟨gb160, 5, none⟩) (Kd.R_far (p := ⟨gb160, 4, none⟩) (Kd.R_far (p := ⟨gb160, 3, none⟩) (Kd.R_far (p := ⟨gb160, 2, none⟩) (Kd.R_far (p := ⟨gb160, 1, none⟩) (Kd.R_far (p := ⟨gb160, 0, none⟩) (Kd.R_mono HO_3.out (fun k_ hk => (⟨hk, hk.2⟩ : _ ∧ k_ ≠ gb160))) (fun _ hk => hk.2) (.int .i64 ((rd_T27 l0_5 x18_1).f0.f0))) (fun _ hk => hk.2) (.int .i64 ((rd_T27 l0_5 x18_1).f0.f1))) (fun _ hk => hk.2) (.string ((rd_T27 l0_5 x18_1).f1))) (fun _ hk => hk.2) (.string ((rd_T27 l0_5 x18_1).f2))) (fun _ hk => hk.2) (.slice A159_4 ((rd_T27 l0_5 x18_1).f3).length c159_4)) (fun _ hk => hk.2) (.slice A159_5 ((rd_T27 l0_5 x18_1).f4).length c159_5)) (fun _ h_ => h_.1))))) (Kd.R_lt (by (with_reducible repeat (first | apply Kd.R_alloc | apply Kd.R_drewN | apply Kd.R_drew)); exact (Kd.R_mono (Kd.R_far (p := ⟨gb160, 5, none⟩) (Kd.R_far (p := ⟨gb160, 4, none⟩) (Kd.R_far (p := ⟨gb160, 3, none⟩) (Kd.R_far (p := ⟨gb160, 2, none⟩) (Kd.R_far (p := ⟨gb160, 1, none⟩) (Kd.R_far (p := ⟨gb160, 0, none⟩) (Kd.R_types HO_149004.out BK160.out (by decide)) (fun _ hk => hk.2) (.int .i64 ((rd_T27 l0_5 x18_1).f0.f0))) (fun _ hk => hk.2) (.int .i64 ((rd_T27 l0_5 x18_1).f0.f1))) (fun _ hk => hk.2) (.string ((rd_T27 l0_5 x18_1).f1))) (fun _ hk => hk.2) (.string ((rd_T27 l0_5 x18_1).f2))) (fun _ hk => hk.2) (.slice A159_4 ((rd_T27 l0_5 x18_1).f3).length c159_4)) (fun _ hk => hk.2) (.slice A159_5 ((rd_T27 l0_5 x18_1).f4).length c159_5)) (fun _ h_ => h_.1))))) (g := gb148) (o := .cells #[.int .i64 a0_0, .int .i64 a0_1, .string a0_2, .string a0_3, .slice Ao12 y153.length co12, .slice (some ad159) l0_5.length c0_5] 27 (0, 0)) (by (with_reducible repeat (first | refine blk_drewN ?_ _ | refine blk_drew ?_ | refine blk_alloc ?_ _)); refine blk_far ?_ NB148_160.out _; (with_reducible repeat (first | refine blk_drewN ?_ _ | refine blk_drew ?_ | refine blk_alloc ?_ _)); refine blk_far ?_ NB148_160.out _; (with_reducible repeat (first | refine blk_drewN ?_ _ | refine blk_drew ?_ | refine blk_alloc ?_ _)); refine blk_far ?_ NB148_160.out _; (with_reducible repeat (first | refine blk_drewN ?_ _ | refine blk_drew ?_ | refine blk_alloc ?_ _)); refine blk_far ?_ NB148_160.out _; (with_reducible repeat (first | refine blk_drewN ?_ _ | refine blk_drew ?_ | refine blk_alloc ?_ _)); refine blk_far ?_ NB148_160.out _; (with_reducible repeat (first | refine blk_drewN ?_ _ | refine blk_drew ?_ | refine blk_alloc ?_ _)); refine blk_far ?_ NB148_160.out _; (with_reducible repeat (first | refine blk_drewN ?_ _ | refine blk_drew ?_ | refine blk_alloc ?_ _)); exact BK148.out)) (g := gb149) (o := .cells #[.int .i64 0, .int .i64 0, .string (⟨#[]⟩ : ByteArray), .string (⟨#[]⟩ : ByteArray), .slice none 0 0, .slice none 0 0] 27 (0, 0)) (by (with_reducible repeat (first | refine blk_drewN ?_ _ | refine blk_drew ?_ | refine blk_alloc ?_ _)); refine blk_far ?_ NB149_160.out _; (with_reducible repeat (first | refine blk_drewN ?_ _ | refine blk_drew ?_ | refine blk_alloc ?_ _)); refine blk_far ?_ NB149_160.out _; (with_reducible repeat (first | refine blk_drewN ?_ _ | refine blk_drew ?_ | refine blk_alloc ?_ _)); refine blk_far ?_ NB149_160.out _; (with_reducible repeat (first | refine blk_drewN ?_ _ | refine blk_drew ?_ | refine blk_alloc ?_ _)); refine blk_far ?_ NB149_160.out _; (with_reducible repeat (first | refine blk_drewN ?_ _ | refine blk_drew ?_ | refine blk_alloc ?_ _)); refine blk_far ?_ NB149_160.out _; (with_reducible repeat (first | refine blk_drewN ?_ _ | refine blk_drew ?_ | refine blk_alloc ?_ _)); refine blk_far ?_ NB149_160.out _; (with_reducible repeat (first | refine blk_drewN ?_ _ | refine blk_drew ?_ | refine blk_alloc ?_ _)); exact BK149.out)) (g := gb160) (o := .cells #[.int .i64 ((rd_T27 l0_5 x18_1).f0.f0), .int .i64 ((rd_T27 l0_5 x18_1).f0.f1), .string ((rd_T27 l0_5 x18_1).f1), .string ((rd_T27 l0_5 x18_1).f2), .slice A159_4 ((rd_T27 l0_5 x18_1).f3).length c159_4, .slice A159_5 ((rd_T27 l0_5 x18_1).f4).length c159_5] 27 (0, 0)) (by (with_reducible repeat (first | refine blk_drewN ?_ _ | refine blk_drew ?_ | refine blk_alloc ?_ _)); refine blk_put (cs := #[.int .i64 ((rd_T27 l0_5 x18_1).f0.f0), .int .i64 ((rd_T27 l0_5 x18_1).f0.f1), .string ((rd_T27 l0_5 x18_1).f1), .string ((rd_T27 l0_5 x18_1).f2), .slice A159_4 ((rd_T27 l0_5 x18_1).f3).length c159_4, .slice none 0 0]) ?_ 5 _ rfl; (with_reducible repeat (first | refine blk_drewN ?_ _ | refine blk_drew ?_ | refine blk_alloc ?_ _)); refine blk_put (cs := #[.int .i64 ((rd_T27 l0_5 x18_1).f0.f0), .int .i64 ((rd_T27 l0_5 x18_1).f0.f1), .string ((rd_T27 l0_5 x18_1).f1), .string ((rd_T27 l0_5 x18_1).f2), .slice none 0 0, .slice none 0 0]) ?_ 4 _ rfl; (with_reducible repeat (first | refine blk_drewN ?_ _ | refine blk_drew ?_ | refine blk_alloc ?_ _)); refine blk_put (cs := #[.int .i64 ((rd_T27 l0_5 x18_1).f0.f0), .int .i64 ((rd_T27 l0_5 x18_1).f0.f1), .string ((rd_T27 l0_5 x18_1).f1), .string (⟨#[]⟩ : ByteArray), .slice none 0 0, .slice none 0 0]) ?_ 3 _ rfl; (with_reducible repeat (first | refine blk_drewN ?_ _ | refine blk_drew ?_ | refine blk_alloc ?_ _)); refine blk_put (cs := #[.int .i64 ((rd_T27 l0_5 x18_1).f0.f0), .int .i64 ((rd_T27 l0_5 x18_1).f0.f1), .string (⟨#[]⟩ : ByteArray), .string (⟨#[]⟩ : ByteArray), .slice none 0 0, .slice none 0 0]) ?_ 2 _ rfl; (with_reducible repeat (first | refine blk_drewN ?_ _ | refine blk_drew ?_ | refine blk_alloc ?_ _)); refine blk_put (cs := #[.int .i64 ((rd_T27 l0_5 x18_1).f0.f0), .int .i64 0, .string (⟨#[]⟩ : ByteArray), .string (⟨#[]⟩ : ByteArray), .slice none 0 0, .slice none 0 0]) ?_ 1 _ rfl; (with_reducible repeat (first | refine blk_drewN ?_ _ | refine blk_drew ?_ | refine blk_alloc ?_ _)); refine blk_put (cs := #[.int .i64 0, .int .i64 0, .string (⟨#[]⟩ : ByteArray), .string (⟨#[]⟩ : ByteArray), .slice none 0 0, .slice none 0 0]) ?_ 0 _ rfl; (with_reducible repeat (first | refine blk_drewN ?_ _ | refine blk_drew ?_ | refine blk_alloc ?_ _)); exact BK160.out)) (below_size (by repeat (first | (with_reducible first | exact HB.out | apply below_alloc | apply pw_below_drewN | apply below_drew1 | refine below_set ?_ GE148.out | refine below_set ?_ GE149.out | refine below_set ?_ GE160.out) | exact HB.out)))); have n4_ := Aside0.mk (blk_below (g := gb148) (o := .cells #[.int .i64 a0_0, .int .i64 a0_1, .string a0_2, .string a0_3, .slice Ao12 y153.length co12, .slice (some ad159) l0_5.length c0_5] 27 (0, 0)) (by (with_reducible repeat (first | refine blk_drewN ?_ _ | refine blk_drew ?_ | refine blk_alloc ?_ _)); refine blk_far ?_ NB148_160.out _; (with_reducible repeat (first | refine blk_drewN ?_ _ | refine blk_drew ?_ | refine blk_alloc ?_ _)); refine blk_far ?_ NB148_160.out _; (with_reducible repeat (first | refine blk_drewN ?_ _ | refine blk_drew ?_ | refine blk_alloc ?_ _)); refine blk_far ?_ NB148_160.out _; (with_reducible repeat (first | refine blk_drewN ?_ _ | refine blk_drew ?_ | refine blk_alloc ?_ _)); refine blk_far ?_ NB148_160.out _; (with_reducible repeat (first | refine blk_drewN ?_ _ | refine blk_drew ?_ | refine blk_alloc ?_ _)); refine blk_far ?_ NB148_160.out _; (with_reducible repeat (first | refine blk_drewN ?_ _ | refine blk_drew ?_ | refine blk_alloc ?_ _)); refine blk_far ?_ NB148_160.out _; (with_reducible repeat (first | refine blk_drewN ?_ _ | refine blk_drew ?_ | refine blk_alloc ?_ _)); exact BK148.out) hb); have n5_ := Aside0.mk (blk_below (g := gb149) (o := .cells #[.int .i64 0, .int .i64 0, .string (⟨#[]⟩ : ByteArray), .string (⟨#[]⟩ : ByteArray), .slice none 0 0, .slice none 0 0] 27 (0, 0)) (by (with_reducible repeat (first | refine blk_drewN ?_ _ | refine blk_drew ?_ | refine blk_alloc ?_ _)); refine blk_far ?_ NB149_160.out _; (with_reducible repeat (first | refine blk_drewN ?_ _ | refine blk_drew ?_ | refine blk_alloc ?_ _)); refine blk_far ?_ NB149_160.out _; (with_reducible repeat (first | refine blk_drewN ?_ _ | refine blk_drew ?_ | refine blk_alloc ?_ _)); refine blk_far ?_ NB149_160.out _; (with_reducible repeat (first | refine blk_drewN ?_ _ | refine blk_drew ?_ | refine blk_alloc ?_ _)); refine blk_far ?_ NB149_160.out _; (with_reducible repeat (first | refine blk_drewN ?_ _ | refine blk_drew ?_ | refine blk_alloc ?_ _)); refine blk_far ?_ NB149_160.out _; (with_reducible repeat (first | refine blk_drewN ?_ _ | refine blk_drew ?_ | refine blk_alloc ?_ _)); refine blk_far ?_ NB149_160.out _; (with_reducible repeat (first | refine blk_drewN ?_ _ | refine blk_drew ?_ | refine blk_alloc ?_ _)); exact BK149.out) hb); have n6_ := Aside0.mk (blk_below (g := gb160) (o := .cells #[.int .i64 ((rd_T27 l0_5 x18_1).f0.f0), .int .i64 ((rd_T27 l0_5 x18_1).f0.f1), .string ((rd_T27 l0_5 x18_1).f1), .string ((rd_T27 l0_5 x18_1).f2), .slice A159_4 ((rd_T27 l0_5 x18_1).f3).length c159_4, .slice A159_5 ((rd_T27 l0_5 x18_1).f4).length c159_5] 27 (0, 0)) (by (with_reducible repeat (first | refine blk_drewN ?_ _ | refine blk_drew ?_ | refine blk_alloc ?_ _)); refine blk_put (cs := #[.int .i64 ((rd_T27 l0_5 x18_1).f0.f0), .int .i64 ((rd_T27 l0_5 x18_1).f0.f1), .string ((rd_T27 l0_5 x18_1).f1), .string ((rd_T27 l0_5 x18_1).f2), .slice A159_4 ((rd_T27 l0_5 x18_1).f3).length c159_4, .slice none 0 0]) ?_ 5 _ rfl; (with_reducible repeat (first | refine blk_drewN ?_ _ | refine blk_drew ?_ | refine blk_alloc ?_ _)); refine blk_put (cs := #[.int .i64 ((rd_T27 l0_5 x18_1).f0.f0), .int .i64 ((rd_T27 l0_5 x18_1).f0.f1), .string ((rd_T27 l0_5 x18_1).f1), .string ((rd_T27 l0_5 x18_1).f2), .slice none 0 0, .slice none 0 0]) ?_ 4 _ rfl; (with_reducible repeat (first | refine blk_drewN ?_ _ | refine blk_drew ?_ | refine blk_alloc ?_ _)); refine blk_put (cs := #[.int .i64 ((rd_T27 l0_5 x18_1).f0.f0), .int .i64 ((rd_T27 l0_5 x18_1).f0.f1), .string ((rd_T27 l0_5 x18_1).f1), .string (⟨#[]⟩ : ByteArray), .slice none 0 0, .slice none 0 0]) ?_ 3 _ rfl; (with_reducible repeat (first | refine blk_drewN ?_ _ | refine blk_drew ?_ | refine blk_alloc ?_ _)); refine blk_put (cs := #[.int .i64 ((rd_T27 l0_5 x18_1).f0.f0), .int .i64 ((rd_T27 l0_5 x18_1).f0.f1), .string (⟨#[]⟩ : ByteArray), .string (⟨#[]⟩ : ByteArray), .slice none 0 0, .slice none 0 0]) ?_ 2 _ rfl; (with_reducible repeat (first | refine blk_drewN ?_ _ | refine blk_drew ?_ | refine blk_alloc ?_ _)); refine blk_put (cs := #[.int .i64 ((rd_T27 l0_5 x18_1).f0.f0), .int .i64 0, .string (⟨#[]⟩ : ByteArray), .string (⟨#[]⟩ : ByteArray), .slice none 0 0, .slice none 0 0]) ?_ 1 _ rfl; (with_reducible repeat (first | refine blk_drewN ?_ _ | refine blk_drew ?_ | refine blk_alloc ?_ _)); refine blk_put (cs := #[.int .i64 0, .int .i64 0, .string (⟨#[]⟩ : ByteArray), .string (⟨#[]⟩ : ByteArray), .slice none 0 0, .slice none 0 0]) ?_ 0 _ rfl; (with_reducible repeat (first | refine blk_drewN ?_ _ | refine blk_drew ?_ | refine blk_alloc ?_ _)); exact BK160.out) hb); have n7_ := Aside0.mk (below_step (by repeat (first | (with_reducible first | exact HB.out | apply below_alloc | apply pw_below_drewN | apply below_drew1 | refine below_set ?_ GE148.out | refine below_set ?_ GE149.out | refine below_set ?_ GE160.out) | exact HB.out)) hb); clear HO_3; clear HO_149004; clear BK148; clear BK149; clear BK160; clear HB; have HO_3 := n0_; have HO_149004 := n1_; have HO167 := n2_; have HO170 := n3_; have BK148 := n4_; have BK149 := n5_; have BK160 := n6_; have HB := n7_; clear n0_ n1_ n2_ n3_ n4_ n5_ n6_ n7_; (try clear hb); (try clear hb2); (try clear hk); (try clear hi); (try clear ho0); (try clear ho1); obtain ⟨Ao28, co28, eo28⟩ := Kd.R_slice HO167.out; subst eo28; obtain ⟨Ao29, co29, eo29⟩ := Kd.R_slice HO170.out; subst eo29) | ((with_reducible refine gate_builtin (b := .append) (xs := #[.tmp 22, .tmp 25]) rfl ?_); at_builtin; refine Kd.R_append k27 (w0 := w) w.heap.size rfl (.tmp 22) (.tmp 25) 25 27 (.agg #[(.int .i64 0), (.int .i64 0), (.string ⟨#[]⟩), (.string ⟨#[]⟩), (.slice none 0 0), (.slice none 0 0)]) 96 rfl Try.underlying25 info27 rfl (by decide) (by omega) u3 x3_1 (⟨(⟨t161, t162⟩ : S23), t163, t164, t165, t168⟩ : S27) [.int .i64 t161, .int .i64 t162, .string t163, .string t164, .slice Ao28 t165.length co28, .slice Ao29 t168.length co29] (fun k_ => some k_ ≠ (.slice Ao12 y153.length co12 : Value).ownBlock ∧ k_ ≠ gb148 ∧ k_ ≠ gb149 ∧ k_ ≠ gb160) (fun k_ => ((fun k_ => some k_ ≠ (.slice Ao12 y153.length co12 : Value).ownBlock ∧ k_ ≠ gb148 ∧ k_ ≠ gb149 ∧ k_ ≠ gb160)) k_ ∧ some k_ ≠ (u3 : Value).ownBlock) rfl rfl ?aP (fun _ hk => hk) ?aF ?aO ?aB ?aS ?aL ?_; (case aP => exact k27_mkM _ _ _ (⟨(⟨t161, t162⟩ : S23), t163, t164, t165, t168⟩ : S27) (Kd.R_mono (Kd.R_types (Kd.R_types (Kd.R_types (Kd.R_apart' (HO167.out) (Kd.R_typed HO_3.out) (by decide)) BK148.out (by decide)) BK149.out (by decide)) BK160.out (by decide)) (fun k_ hk => ⟨⟨hk.1.1.1.1.2, ⟨hk.1.1.2, ⟨hk.1.2, hk.2⟩⟩⟩, hk.1.1.1.2⟩)) (Kd.R_mono (HO170.out) (fun k_ hk => ⟨⟨hk.1.1.1.2, ⟨hk.1.1.2, ⟨hk.1.2, hk.2⟩⟩⟩, hk.1.1.1.1.2⟩))); (case aB => exact (by repeat (first | (with_reducible first | exact HB.out | apply below_alloc | apply pw_below_drewN | apply below_drew1 | refine below_set ?_ GE148.out | refine below_set ?_ GE149.out | refine below_set ?_ GE160.out) | exact HB.out))); (case aF => exact (fun k_ hk => ⟨Kd.fresh' (Kd.R_lt (by (with_reducible repeat (first | apply Kd.R_alloc | apply Kd.R_drewN | apply Kd.R_drew)); exact HO_149004.out)) k_ hk, Kd.freshB (g := gb148) (o := .cells #[.int .i64 a0_0, .int .i64 a0_1, .string a0_2, .string a0_3, .slice Ao12 y153.length co12, .slice (some ad159) l0_5.length c0_5] 27 (0, 0)) (by (with_reducible repeat (first | refine blk_drewN ?_ _ | refine blk_drew ?_ | refine blk_alloc ?_ _)); exact BK148.out) k_ hk, Kd.freshB (g := gb149) (o := .cells #[.int .i64 0, .int .i64 0, .string (⟨#[]⟩ : ByteArray), .string (⟨#[]⟩ : ByteArray), .slice none 0 0, .slice none 0 0] 27 (0, 0)) (by (with_reducible repeat (first | refine blk_drewN ?_ _ | refine blk_drew ?_ | refine blk_alloc ?_ _)); exact BK149.out) k_ hk, Kd.freshB (g := gb160) (o := .cells #[.int .i64 ((rd_T27 l0_5 x18_1).f0.f0), .int .i64 ((rd_T27 l0_5 x18_1).f0.f1), .string ((rd_T27 l0_5 x18_1).f1), .string ((rd_T27 l0_5 x18_1).f2), .slice A159_4 ((rd_T27 l0_5 x18_1).f3).length c159_4, .slice A159_5 ((rd_T27 l0_5 x18_1).f4).length c159_5] 27 (0, 0)) (by (with_reducible repeat (first | refine blk_drewN ?_ _ | refine blk_drew ?_ | refine blk_alloc ?_ _)); exact BK160.out) k_ hk⟩)); (case aO => exact (by (with_reducible repeat (first | apply Kd.R_alloc | apply Kd.R_drewN | apply Kd.R_drew)); exact Kd.R_mono HO_3.out (fun _ hk => ⟨hk.1.1.1.1, ⟨hk.1.1.1.2.1, ⟨hk.1.1.1.2.2, hk.1.1.2⟩⟩⟩))); (case aS => exact (below_size (by repeat (first | (with_reducible first | exact HB.out | apply below_alloc | apply pw_below_drewN | apply below_drew1 | refine below_set ?_ GE148.out | refine below_set ?_ GE149.out | refine below_set ?_ GE160.out) | exact HB.out)))); (case aL => have := LMc21.out; omega); intro v172 w27 ho hb hg hat; rw [← Ny171.out] at ho; have n0_ := Aside0.mk (Kd.R_over' (by (with_reducible repeat (first | apply Kd.R_alloc | apply Kd.R_drewN | apply Kd.R_drew)); exact HO_149004.out) (Kd.R_typed (by (with_reducible repeat (first | apply Kd.R_alloc | apply Kd.R_drewN | apply Kd.R_drew)); exact HO_3.out)) (by decide) hg); have n1_ := Aside0.mk (blk_grown (g := gb148) (o := .cells #[.int .i64 a0_0, .int .i64 a0_1, .string a0_2, .string a0_3, .slice Ao12 y153.length co12, .slice (some ad159) l0_5.length c0_5] 27 (0, 0)) (by (with_reducible repeat (first | refine blk_drewN ?_ _ | refine blk_drew ?_ | refine blk_alloc ?_ _)); exact BK148.out) hg (Kd.R_away HO_3.out (fun _ hk => hk.1.1.1.2.1))); have n2_ := Aside0.mk (blk_grown (g := gb149) (o := .cells #[.int .i64 0, .int .i64 0, .string (⟨#[]⟩ : ByteArray), .string (⟨#[]⟩ : ByteArray), .slice none 0 0, .slice none 0 0] 27 (0, 0)) (by (with_reducible repeat (first | refine blk_drewN ?_ _ | refine blk_drew ?_ | refine blk_alloc ?_ _)); exact BK149.out) hg (Kd.R_away HO_3.out (fun _ hk => hk.1.1.1.2.2))); have n3_ := Aside0.mk (blk_grown (g := gb160) (o := .cells #[.int .i64 ((rd_T27 l0_5 x18_1).f0.f0), .int .i64 ((rd_T27 l0_5 x18_1).f0.f1), .string ((rd_T27 l0_5 x18_1).f1), .string ((rd_T27 l0_5 x18_1).f2), .slice A159_4 ((rd_T27 l0_5 x18_1).f3).length c159_4, .slice A159_5 ((rd_T27 l0_5 x18_1).f4).length c159_5] 27 (0, 0)) (by (with_reducible repeat (first | refine blk_drewN ?_ _ | refine blk_drew ?_ | refine blk_alloc ?_ _)); exact BK160.out) hg (Kd.R_away HO_3.out (fun _ hk => hk.1.1.2))); have n4_ := Aside0.mk (hb); have n5_ := Aside0.mk (ho); clear HO_149004; clear BK148; clear BK149; clear BK160; clear HB; clear HO_3; clear HO167; clear HO170; have HO_149004 := n0_; have BK148 := n1_; have BK149 := n2_; have BK160 := n3_; have HB := n4_; have HO173 := n5_; clear n0_ n1_ n2_ n3_ n4_ n5_; clear ho hb hg hat))
                    go_roundg k1
                    case measure => have := HK1.out; omega
                    case rel => exact ⟨(y171), (wrap64 (x18_1 + 1)), (by first | rfl | (simp; done) | (simp [*]; done)), H', ⟨by have := HK1.out; omega⟩, ⟨by (with_reducible repeat (first | apply Kd.R_alloc | apply Kd.R_drewN | apply Kd.R_drew)); exact Kd.R_mono HO173.out (fun _ hk => ⟨hk.1, ⟨hk.2.1, hk.2.2.1⟩⟩)⟩, ⟨by (with_reducible repeat (first | apply Kd.R_alloc | apply Kd.R_drewN | apply Kd.R_drew)); exact Kd.R_mono HO_149004.out (fun _ hk => trivial)⟩, ⟨by (with_reducible repeat (first | refine blk_drewN ?_ _ | refine blk_drew ?_ | refine blk_alloc ?_ _)); exact BK148.out⟩, ⟨by (with_reducible repeat (first | refine blk_drewN ?_ _ | refine blk_drew ?_ | refine blk_alloc ?_ _)); exact BK149.out⟩, ⟨by repeat (first | (with_reducible first | exact HB.out | apply below_alloc | apply pw_below_drewN | apply below_drew1 | refine below_set ?_ GE148.out | refine below_set ?_ GE149.out | refine below_set ?_ GE160.out) | exact HB.out)⟩⟩
                  · rw [if_neg c21] at H
                    exact absurd H (by simp)
                · rw [if_neg c19] at H
                  exact absurd H (by simp)
              · rw [if_neg c18] at H
                exact absurd H (by simp)
            · rw [if_neg c17] at H
              have c17b0 : decide (x18_1 < (l0_5.length : Int)) = false := decide_eq_false c17
              clear c17
              simp only [Option.some.injEq, Prod.mk.injEq] at H
              obtain ⟨rfl, rfl, rfl, rfl, rfl, rfl⟩ := H
              obtain ⟨Ao30, co30, eo30⟩ := Kd.R_slice HO_3.out
              subst eo30
              have hnb31 := NB148_149.out
              have hnc31 := NB149_148.out
              have hcz32_0 : wr.cell? ⟨gb148, 0, none⟩ = some (.int .i64 a0_0) := (blk_cell BK148.out 0).trans rfl
              have hcz32_1 : wr.cell? ⟨gb148, 1, none⟩ = some (.int .i64 a0_1) := (blk_cell BK148.out 1).trans rfl
              have hcz32_2 : wr.cell? ⟨gb148, 2, none⟩ = some (.string a0_2) := (blk_cell BK148.out 2).trans rfl
              have hcz32_3 : wr.cell? ⟨gb148, 3, none⟩ = some (.string a0_3) := (blk_cell BK148.out 3).trans rfl
              have hcz32_4 : wr.cell? ⟨gb148, 4, none⟩ = some (.slice Ao12 y153.length co12) := (blk_cell BK148.out 4).trans rfl
              have hcz32_5 : wr.cell? ⟨gb148, 5, none⟩ = some (.slice A0_5 l0_5.length c0_5) := (blk_cell BK148.out 5).trans rfl
              have hfz32_0 := blk_frozen BK148.out 0
              have hfz32_1 := blk_frozen BK148.out 1
              have hfz32_2 := blk_frozen BK148.out 2
              have hfz32_3 := blk_frozen BK148.out 3
              have hfz32_4 := blk_frozen BK148.out 4
              have hfz32_5 := blk_frozen BK148.out 5
              have hcz33_0 : wr.cell? ⟨gb149, 0, none⟩ = some (.int .i64 0) := (blk_cell BK149.out 0).trans rfl
              have hcz33_1 : wr.cell? ⟨gb149, 1, none⟩ = some (.int .i64 0) := (blk_cell BK149.out 1).trans rfl
              have hcz33_2 : wr.cell? ⟨gb149, 2, none⟩ = some (.string (⟨#[]⟩ : ByteArray)) := (blk_cell BK149.out 2).trans rfl
              have hcz33_3 : wr.cell? ⟨gb149, 3, none⟩ = some (.string (⟨#[]⟩ : ByteArray)) := (blk_cell BK149.out 3).trans rfl
              have hcz33_4 : wr.cell? ⟨gb149, 4, none⟩ = some (.slice none 0 0) := (blk_cell BK149.out 4).trans rfl
              have hcz33_5 : wr.cell? ⟨gb149, 5, none⟩ = some (.slice none 0 0) := (blk_cell BK149.out 5).trans rfl
              have hfz33_0 := blk_frozen BK149.out 0
              have hfz33_1 := blk_frozen BK149.out 1
              have hfz33_2 := blk_frozen BK149.out 2
              have hfz33_3 := blk_frozen BK149.out 3
              have hfz33_4 := blk_frozen BK149.out 4
              have hfz33_5 := blk_frozen BK149.out 5
              go_wp2
              refine bodyPost_ret (results_cell_row rfl _ _ gb149 27 #[.int .i64 a0_0, .int .i64 a0_1, .string a0_2, .string a0_3, .slice Ao12 y153.length co12, .slice Ao30 x3_1.length co30] (0, 0) _ rfl (by (with_reducible repeat (first | refine blk_drewN ?_ _ | refine blk_drew ?_ | refine blk_alloc ?_ _)); refine blk_put (cs := #[.int .i64 a0_0, .int .i64 a0_1, .string a0_2, .string a0_3, .slice Ao12 y153.length co12, .slice none 0 0]) ?_ 5 _ rfl; (with_reducible repeat (first | refine blk_drewN ?_ _ | refine blk_drew ?_ | refine blk_alloc ?_ _)); refine blk_put (cs := #[.int .i64 a0_0, .int .i64 a0_1, .string a0_2, .string a0_3, .slice none 0 0, .slice none 0 0]) ?_ 4 _ rfl; (with_reducible repeat (first | refine blk_drewN ?_ _ | refine blk_drew ?_ | refine blk_alloc ?_ _)); refine blk_put (cs := #[.int .i64 a0_0, .int .i64 a0_1, .string a0_2, .string (⟨#[]⟩ : ByteArray), .slice none 0 0, .slice none 0 0]) ?_ 3 _ rfl; (with_reducible repeat (first | refine blk_drewN ?_ _ | refine blk_drew ?_ | refine blk_alloc ?_ _)); refine blk_put (cs := #[.int .i64 a0_0, .int .i64 a0_1, .string (⟨#[]⟩ : ByteArray), .string (⟨#[]⟩ : ByteArray), .slice none 0 0, .slice none 0 0]) ?_ 2 _ rfl; (with_reducible repeat (first | refine blk_drewN ?_ _ | refine blk_drew ?_ | refine blk_alloc ?_ _)); refine blk_put (cs := #[.int .i64 a0_0, .int .i64 0, .string (⟨#[]⟩ : ByteArray), .string (⟨#[]⟩ : ByteArray), .slice none 0 0, .slice none 0 0]) ?_ 1 _ rfl; (with_reducible repeat (first | refine blk_drewN ?_ _ | refine blk_drew ?_ | refine blk_alloc ?_ _)); refine blk_put (cs := #[.int .i64 0, .int .i64 0, .string (⟨#[]⟩ : ByteArray), .string (⟨#[]⟩ : ByteArray), .slice none 0 0, .slice none 0 0]) ?_ 0 _ rfl; (with_reducible repeat (first | refine blk_drewN ?_ _ | refine blk_drew ?_ | refine blk_alloc ?_ _)); refine blk_far ?_ NB149_148.out _; (with_reducible repeat (first | refine blk_drewN ?_ _ | refine blk_drew ?_ | refine blk_alloc ?_ _)); exact BK149.out) Try.underlying27 rfl (by kernel_rfl)) rfl ?_
              exact ⟨_, _, by first | rfl | (simp [errW_none, errW_some] <;> rfl) | (simp [*, errW_none, errW_some] <;> rfl), by (with_reducible repeat (first | apply Kd.R_alloc | apply Kd.R_drewN | apply Kd.R_drew)); exact Kd.R_mono (Kd.R_far (p := ⟨gb149, 5, none⟩) (Kd.R_far (p := ⟨gb149, 4, none⟩) (Kd.R_far (p := ⟨gb149, 3, none⟩) (Kd.R_far (p := ⟨gb149, 2, none⟩) (Kd.R_far (p := ⟨gb149, 1, none⟩) (Kd.R_far (p := ⟨gb149, 0, none⟩) (Kd.R_far (p := ⟨gb148, 5, none⟩) (Kd.R_types (Kd.R_types HO_149004.out BK148.out (by decide)) BK149.out (by decide)) (fun _ hk => hk.1.2) (.slice Ao30 x3_1.length co30)) (fun _ hk => hk.2) (.int .i64 a0_0)) (fun _ hk => hk.2) (.int .i64 a0_1)) (fun _ hk => hk.2) (.string a0_2)) (fun _ hk => hk.2) (.string a0_3)) (fun _ hk => hk.2) (.slice Ao12 y153.length co12)) (fun _ hk => hk.2) (.slice Ao30 x3_1.length co30)) (fun _ hk => trivial), by (with_reducible repeat (first | apply Kd.R_alloc | apply Kd.R_drewN | apply Kd.R_drew)); exact Kd.R_mono (Kd.R_far (p := ⟨gb149, 5, none⟩) (Kd.R_far (p := ⟨gb149, 4, none⟩) (Kd.R_far (p := ⟨gb149, 3, none⟩) (Kd.R_far (p := ⟨gb149, 2, none⟩) (Kd.R_far (p := ⟨gb149, 1, none⟩) (Kd.R_far (p := ⟨gb149, 0, none⟩) (Kd.R_far (p := ⟨gb148, 5, none⟩) (Kd.R_mono (Kd.R_mono HO_3.out (fun k_ hk => (⟨hk, hk.2.1⟩ : _ ∧ k_ ≠ gb148))) (fun k_ hk => (⟨hk, hk.1.2.2⟩ : _ ∧ k_ ≠ gb149))) (fun _ hk => hk.1.2) (.slice Ao30 x3_1.length co30)) (fun _ hk => hk.2) (.int .i64 a0_0)) (fun _ hk => hk.2) (.int .i64 a0_1)) (fun _ hk => hk.2) (.string a0_2)) (fun _ hk => hk.2) (.string a0_3)) (fun _ hk => hk.2) (.slice Ao12 y153.length co12)) (fun _ hk => hk.2) (.slice Ao30 x3_1.length co30)) (fun _ hk => hk.1.1.1), by repeat (first | (with_reducible first | exact HB.out | apply below_alloc | apply pw_below_drewN | apply below_drew1 | refine below_set ?_ GE148.out | refine below_set ?_ GE149.out) | exact HB.out)⟩
      · rw [if_neg c4] at H
        exact absurd H (by simp)
    · rw [if_neg c3] at H
      exact absurd H (by simp)
  · rw [if_neg c2] at H
    exact absurd H (by simp)

end Go.Proofs.Ytnkbgimihikhoaa.PVt
namespace Go.Proofs.Ytnkbgimihikhoaa.PVt
open Go.RowKit Go.Proofs.YtnkbgimihikhoaaW.PrintWords Go.Proofs.YtnkbgimihikhoaaW.PrintLast Go.Proofs.YtnkbgimihikhoaaW.PrintMore
set_option linter.unusedVariables false
set_option linter.unusedSimpArgs false
/-- The cells of a node that may be written over: rows of blocks from b on, below t, at most so deep. -/
def Sp (b t : Nat) (w : World) : Nat → List Value → Prop
  | 0, _ => False
  | n + 1, cs => ∃ (i0 i1 : Int) (s0 s1 : ByteArray) (A4 : Option Addr) (l4 c4 : Nat) (A5 : Option Addr) (l5 c5 : Nat), cs = [.int .i64 i0, .int .i64 i1, .string s0, .string s1, .slice A4 l4 c4, .slice A5 l5 c5] ∧ l4 ≤ 9223372036854775807 ∧ l5 ≤ 9223372036854775807 ∧
    (0 < l4 → ∃ g C, A4 = some ⟨g, 0, none⟩ ∧ b ≤ g ∧ g < t ∧ w.heap[g]? = some (.cells C 99 (0, 0)) ∧ l4 * 2 ≤ C.size) ∧
    (0 < l5 → ∃ g C, A5 = some ⟨g, 0, none⟩ ∧ b ≤ g ∧ g < t ∧ w.heap[g]? = some (.cells C 27 (0, 0)) ∧ ∀ j, j < l5 → ∃ ds : List Value, ds.length = 6 ∧ (∀ i u, ds[i]? = some u → C[j * 6 + i]? = some u) ∧ Sp b t w n ds)
theorem Sp.pos {b t : Nat} {w : World} {n : Nat} {cs : List Value} (h : Sp b t w n cs) : ∃ m, n = m + 1 := by
  cases n with
  | zero => exact h.elim
  | succ m => exact ⟨m, rfl⟩
def leaf27 : List Value := [.int .i64 0, .int .i64 0, .string ⟨#[115, 112, 111, 105, 108, 116]⟩, .string ⟨#[]⟩, .slice none 0 0, .slice none 0 0]
theorem Sp.leaf (b t : Nat) (w : World) (n : Nat) : Sp b t w (n + 1) leaf27 := ⟨_, _, _, _, _, _, _, _, _, _, rfl, by omega, by omega, fun h => absurd h (by omega), fun h => absurd h (by omega)⟩
/-- What is there stays. -/
theorem Sp.step {b t : Nat} {w w1 : World} (hk : ∀ k, b ≤ k → k < w.heap.size → w1.heap[k]? = w.heap[k]?) : ∀ (n : Nat) (cs : List Value), Sp b t w n cs → Sp b t w1 n cs
  | 0, _, h => h
  | n + 1, cs, ⟨i0, i1, s0, s1, A4, l4, c4, A5, l5, c5, e, h1, h2, h3, h4⟩ => by
    refine ⟨i0, i1, s0, s1, A4, l4, c4, A5, l5, c5, e, h1, h2, fun h0 => ?_, fun h0 => ?_⟩
    · obtain ⟨g, C, e1, e2, e3, e4, e5⟩ := h3 h0
      exact ⟨g, C, e1, e2, e3, (hk g e2 (Array.getElem?_eq_some_iff.1 e4).1).trans e4, e5⟩
    · obtain ⟨g, C, e1, e2, e3, e4, e5⟩ := h4 h0
      refine ⟨g, C, e1, e2, e3, (hk g e2 (Array.getElem?_eq_some_iff.1 e4).1).trans e4, fun j hj => ?_⟩
      obtain ⟨ds, f1, f2, f3⟩ := e5 j hj
      exact ⟨ds, f1, f2, Sp.step hk n ds f3⟩
theorem Sp.more {b t : Nat} {w : World} : ∀ (n : Nat) (cs : List Value), Sp b t w n cs → Sp b t w (n + 1) cs
  | 0, _, h => h.elim
  | n + 1, cs, ⟨i0, i1, s0, s1, A4, l4, c4, A5, l5, c5, e, h1, h2, h3, h4⟩ => by
    refine ⟨i0, i1, s0, s1, A4, l4, c4, A5, l5, c5, e, h1, h2, h3, fun h0 => ?_⟩
    obtain ⟨g, C, e1, e2, e3, e4, e5⟩ := h4 h0
    refine ⟨g, C, e1, e2, e3, e4, fun j hj => ?_⟩
    obtain ⟨ds, f1, f2, f3⟩ := e5 j hj
    exact ⟨ds, f1, f2, Sp.more n ds f3⟩
theorem Sp.upto {b t : Nat} {w : World} {n m : Nat} {cs : List Value} (h : Sp b t w n cs) (hm : n ≤ m) : Sp b t w m cs := by
  obtain ⟨d, rfl⟩ := Nat.le.dest hm
  clear hm
  induction d with
  | zero => exact h
  | succ d ih => exact Sp.more _ _ ih
/-- A block of attributes is written. -/
theorem Sp.attr {b t : Nat} {w w1 : World} {g : Nat} {C C' : Array Value} (ho : ∀ k, k ≠ g → w1.heap[k]? = w.heap[k]?) (hg : w.heap[g]? = some (.cells C 99 (0, 0))) (hg' : w1.heap[g]? = some (.cells C' 99 (0, 0))) (hs : C'.size = C.size) : ∀ (n : Nat) (cs : List Value), Sp b t w n cs → Sp b t w1 n cs
  | 0, _, h => h
  | n + 1, cs, ⟨i0, i1, s0, s1, A4, l4, c4, A5, l5, c5, e, h1, h2, h3, h4⟩ => by
    refine ⟨i0, i1, s0, s1, A4, l4, c4, A5, l5, c5, e, h1, h2, fun h0 => ?_, fun h0 => ?_⟩
    · obtain ⟨q, D, e1, e2, e3, e4, e5⟩ := h3 h0
      by_cases hq : q = g
      · subst hq
        rw [hg] at e4
        injection e4 with e4
        injection e4 with e4
        subst e4
        exact ⟨q, C', e1, e2, e3, hg', by rw [hs]; exact e5⟩
      · exact ⟨q, D, e1, e2, e3, (ho q hq).trans e4, e5⟩
    · obtain ⟨q, D, e1, e2, e3, e4, e5⟩ := h4 h0
      have hq : q ≠ g := by
        rintro rfl
        rw [hg] at e4
        injection e4 with e4
        injection e4 with _ e4
        exact absurd e4 (by decide)
      refine ⟨q, D, e1, e2, e3, (ho q hq).trans e4, fun j hj => ?_⟩
      obtain ⟨ds, f1, f2, f3⟩ := e5 j hj
      exact ⟨ds, f1, f2, Sp.attr ho hg hg' hs n ds f3⟩
/-- A node in a block is written over. -/
theorem Sp.kid {b t : Nat} {w w1 : World} {g q : Nat} {C C' : Array Value} (ho : ∀ k, k ≠ g → w1.heap[k]? = w.heap[k]?) (hg : w.heap[g]? = some (.cells C 27 (0, 0))) (hg' : w1.heap[g]? = some (.cells C' 27 (0, 0)))
    (hf : ∀ m, (m < q * 6 ∨ q * 6 + 6 ≤ m) → C'[m]? = C[m]?) (hl : ∀ i u, leaf27[i]? = some u → C'[q * 6 + i]? = some u) : ∀ (n : Nat) (cs : List Value), Sp b t w n cs → Sp b t w1 n cs
  | 0, _, h => h
  | n + 1, cs, ⟨i0, i1, s0, s1, A4, l4, c4, A5, l5, c5, e, h1, h2, h3, h4⟩ => by
    refine ⟨i0, i1, s0, s1, A4, l4, c4, A5, l5, c5, e, h1, h2, fun h0 => ?_, fun h0 => ?_⟩
    · obtain ⟨k, D, e1, e2, e3, e4, e5⟩ := h3 h0
      have hk : k ≠ g := by
        rintro rfl
        rw [hg] at e4
        injection e4 with e4
        injection e4 with _ e4
        exact absurd e4 (by decide)
      exact ⟨k, D, e1, e2, e3, (ho k hk).trans e4, e5⟩
    · obtain ⟨k, D, e1, e2, e3, e4, e5⟩ := h4 h0
      by_cases hk : k = g
      · subst hk
        rw [hg] at e4
        injection e4 with e4
        injection e4 with e4
        subst e4
        refine ⟨k, C', e1, e2, e3, hg', fun j hj => ?_⟩
        obtain ⟨ds, f1, f2, f3⟩ := e5 j hj
        by_cases hj' : j = q
        · subst hj'
          obtain ⟨m, rfl⟩ := f3.pos
          exact ⟨leaf27, rfl, hl, Sp.leaf b t w1 m⟩
        · refine ⟨ds, f1, fun i u hu => ?_, Sp.kid ho hg hg' hf hl n ds f3⟩
          have hi : i < 6 := by rw [← f1]; exact (List.getElem?_eq_some_iff.1 hu).1
          rw [hf _ (by omega)]
          exact f2 i u hu
      · refine ⟨k, D, e1, e2, e3, (ho k hk).trans e4, fun j hj => ?_⟩
        obtain ⟨ds, f1, f2, f3⟩ := e5 j hj
        exact ⟨ds, f1, f2, Sp.kid ho hg hg' hf hl n ds f3⟩
attribute [local irreducible] Sp
/-- What a spoiling leaves: all below b, all from t on, and that it may be spoilt again. -/
structure Wr (b t : Nat) (w w' : World) : Prop where
  low : Below b w w'
  high : ∀ k, t ≤ k → k < w.heap.size → w'.heap[k]? = w.heap[k]?
  sp : ∀ n cs, Sp b t w n cs → Sp b t w' n cs
theorem Wr.refl (b t : Nat) (w : World) : Wr b t w w := ⟨Below.refl _ _, fun _ _ _ => rfl, fun _ _ h => h⟩
theorem Wr.trans {b t : Nat} {w w1 w2 : World} (h : Wr b t w w1) (k : Wr b t w1 w2) : Wr b t w w2 := ⟨h.low.trans k.low, fun i hi hl => (k.high i hi (Nat.lt_of_lt_of_le hl h.low.size)).trans (h.high i hi hl), fun n cs hs => k.sp n cs (h.sp n cs hs)⟩
theorem Wr.below {b t : Nat} {w w1 : World} (h : Below w.heap.size w w1) (hb : b ≤ w.heap.size) : Wr b t w w1 := ⟨h.mono hb, fun k _ hl => h.block k hl, fun n cs hs => Sp.step (fun k _ hl => h.block k hl) n cs hs⟩
theorem setB {w : World} {g : Nat} {C : Array Value} {e : TypeId} (hg : w.heap[g]? = some (.cells C e (0, 0))) (o : Nat) (v : Value) : (w.setCell ⟨g, o, none⟩ v).heap[g]? = some (.cells (C.setIfInBounds o v) e (0, 0)) := Mem.set_heap hg o v
theorem low_set {b : Nat} {w : World} {g o : Nat} (hg : b ≤ g) (v : Value) : Below b w (w.setCell ⟨g, o, none⟩ v) := Below.setCell (Below.refl b w) (p := ⟨g, o, none⟩) hg v
/-- Two cells of a block of attributes. -/
theorem Wr.attr {b t : Nat} {w : World} {g : Nat} {C : Array Value} (hg : w.heap[g]? = some (.cells C 99 (0, 0))) (hb : b ≤ g) (ht : g < t) (o o' : Nat) (u v : Value) : Wr b t w ((w.setCell ⟨g, o, none⟩ u).setCell ⟨g, o', none⟩ v) where
  low := (low_set hb u).trans (low_set hb v)
  high := fun k hk hl => (Mem.set_other _ _ _ _ (by show k ≠ g; omega)).trans (Mem.set_other _ _ _ _ (by show k ≠ g; omega))
  sp := by
    have h1 := setB (setB hg o u) o' v
    have h2 : ((C.setIfInBounds o u).setIfInBounds o' v).size = C.size := by rw [Array.size_setIfInBounds, Array.size_setIfInBounds]
    have h3 : ∀ k, k ≠ g → ((w.setCell ⟨g, o, none⟩ u).setCell ⟨g, o', none⟩ v).heap[k]? = w.heap[k]? := fun k hk => (Mem.set_other _ _ _ _ hk).trans (Mem.set_other _ _ _ _ hk)
    exact Sp.attr h3 hg h1 h2
def putLeaf (w : World) (g o : Nat) : World := (((((w.setCell ⟨g, o, none⟩ (.int .i64 0)).setCell ⟨g, o + 1, none⟩ (.int .i64 0)).setCell ⟨g, o + 2, none⟩ (.string ⟨#[115, 112, 111, 105, 108, 116]⟩)).setCell ⟨g, o + 3, none⟩ (.string ⟨#[]⟩)).setCell ⟨g, o + 4, none⟩ (.slice none 0 0)).setCell ⟨g, o + 5, none⟩ (.slice none 0 0)
theorem Wr.leaf {b t : Nat} {w : World} {g q : Nat} {C : Array Value} (hg : w.heap[g]? = some (.cells C 27 (0, 0))) (hb : b ≤ g) (ht : g < t) (hq : q * 6 + 6 ≤ C.size) : Wr b t w (putLeaf w g (q * 6)) where
  low := (((((low_set hb _).trans (low_set hb _)).trans (low_set hb _)).trans (low_set hb _)).trans (low_set hb _)).trans (low_set hb _)
  high := fun k hk hl => (Mem.set_other _ _ _ _ (by show k ≠ g; omega)).trans ((Mem.set_other _ _ _ _ (by show k ≠ g; omega)).trans ((Mem.set_other _ _ _ _ (by show k ≠ g; omega)).trans ((Mem.set_other _ _ _ _ (by show k ≠ g; omega)).trans ((Mem.set_other _ _ _ _ (by show k ≠ g; omega)).trans (Mem.set_other _ _ _ _ (by show k ≠ g; omega))))))
  sp := by
    have h1 := setB (setB (setB (setB (setB (setB hg (q * 6) (.int .i64 0)) (q * 6 + 1) (.int .i64 0)) (q * 6 + 2) (.string ⟨#[115, 112, 111, 105, 108, 116]⟩)) (q * 6 + 3) (.string ⟨#[]⟩)) (q * 6 + 4) (.slice none 0 0)) (q * 6 + 5) (.slice none 0 0)
    have h3 : ∀ k, k ≠ g → (putLeaf w g (q * 6)).heap[k]? = w.heap[k]? := fun k hk => (Mem.set_other _ _ _ _ hk).trans ((Mem.set_other _ _ _ _ hk).trans ((Mem.set_other _ _ _ _ hk).trans ((Mem.set_other _ _ _ _ hk).trans ((Mem.set_other _ _ _ _ hk).trans (Mem.set_other _ _ _ _ hk)))))
    refine Sp.kid (q := q) h3 hg h1 (fun m hm => ?_) (fun i u hu => ?_)
    · simp only [Array.getElem?_setIfInBounds, Array.size_setIfInBounds]
      rw [if_neg (by omega), if_neg (by omega), if_neg (by omega), if_neg (by omega), if_neg (by omega), if_neg (by omega)]
    · have hi : i < 6 := (List.getElem?_eq_some_iff.1 hu).1
      simp only [Array.getElem?_setIfInBounds, Array.size_setIfInBounds]
      match i, hi with
      | 0, _ => rw [if_neg (by omega), if_neg (by omega), if_neg (by omega), if_neg (by omega), if_neg (by omega), if_pos (by omega), if_pos (by omega)]; exact hu
      | 1, _ => rw [if_neg (by omega), if_neg (by omega), if_neg (by omega), if_neg (by omega), if_pos (by omega), if_pos (by omega)]; exact hu
      | 2, _ => rw [if_neg (by omega), if_neg (by omega), if_neg (by omega), if_pos (by omega), if_pos (by omega)]; exact hu
      | 3, _ => rw [if_neg (by omega), if_neg (by omega), if_pos (by omega), if_pos (by omega)]; exact hu
      | 4, _ => rw [if_neg (by omega), if_pos (by omega), if_pos (by omega)]; exact hu
      | 5, _ => rw [if_pos (by omega), if_pos (by omega)]; exact hu
/-- The row of attributes, and that of the kids, of what may be spoilt. -/
theorem cell_lt {C : Array Value} {i : Nat} (h : i < C.size) : ∃ v, C[i]? = some v := ⟨C[i], Array.getElem?_eq_getElem h⟩
set_option maxHeartbeats 4000000 in
set_option maxRecDepth 100000 in
theorem spoil_calls (b t : Nat) : ∀ (n : Nat) (w : World) (cs : List Value), Sp b t w n cs → b ≤ t → t ≤ w.heap.size → Calls Try.prog 26 #[.agg cs.toArray] w fun e w' => (∃ v, e = .returned v) ∧ Wr b t w w'
  | 0, _, _, h, _, _ => by unfold Sp at h; exact h.elim
  | n + 1, w, cs, h, hbt, ht => by
    have HS0 := Aside0.mk h
    unfold Sp at h
    obtain ⟨i0, i1, s0, s1, A4, l4, c4, A5, l5, c5, rfl, h1, h2, h3, h4⟩ := h
    clear h3 h4
    have IH := Aside0.mk (spoil_calls b t n)
    have L4 := Aside0.mk h1
    have L5 := Aside0.mk h2
    have BT := Aside0.mk hbt
    have TW := Aside0.mk ht
    have HX : Aside0 ((w.alloc (.cells #[.int .i64 i0, .int .i64 i1, .string s0, .string s1, .slice A4 l4 c4, .slice A5 l5 c5] 27)).heap[w.heap.size]? = some (.cells #[.int .i64 i0, .int .i64 i1, .string s0, .string s1, .slice A4 l4 c4, .slice A5 l5 c5] 27 (0, 0))) := ⟨Mem.alloc_new _ _⟩
    have HW0 : Aside0 (Wr b t w (w.alloc (.cells #[.int .i64 i0, .int .i64 i1, .string s0, .string s1, .slice A4 l4 c4, .slice A5 l5 c5] 27))) := ⟨Wr.below (below_alloc (Below.refl _ _) _) (Nat.le_trans hbt ht)⟩
    clear h1 h2 hbt ht
    go_enter Try.func26, Try.ntmps26
    go_wp2_with (fail)
    go_loopw [2] (fun i wr => ∃ k : Nat, i = .int .i64 (k : Int) ∧ Aside0 (k ≤ l4) ∧ Aside0 (wr.heap[w.heap.size]? = some (.cells #[.int .i64 i0, .int .i64 i1, .string s0, .string s1, .slice A4 l4 c4, .slice A5 l5 c5] 27 (0, 0))) ∧ Aside0 (Wr b t w wr)) (fun i _ => l4 - (intOf i).toNat)
    case atStart => exact ⟨0, rfl, ⟨Nat.zero_le _⟩, HX, HW0⟩
    case round =>
      clear HX HW0
      obtain ⟨k, rfl, HK, HX, HW⟩ := hrel
      have hSp := HW.out.sp _ _ HS0.out
      unfold Sp at hSp
      obtain ⟨_, _, _, _, _, _, _, _, _, _, he, h1, h2, h3, h4⟩ := hSp
      injection he with _ he
      injection he with _ he
      injection he with _ he
      injection he with _ he
      injection he with he he2
      injection he with e1 e2 e3
      subst e1 e2 e3
      injection he2 with he2
      injection he2 with e1 e2 e3
      subst e1 e2 e3
      have b4 := Mem.cell_of HX.out 4
      have f4 := Mem.cell_of HX.out 5
      by_cases hlt : k < l4
      · obtain ⟨g, C, rfl, hbg, hgt, hg, hC⟩ := h3 (by omega)
        have HG := Aside0.mk hg
        have HBG := Aside0.mk hbg
        have HGT := Aside0.mk hgt
        have HCC := Aside0.mk hC
        have HLT := Aside0.mk hlt
        have HN := Aside0.mk (wrap_in hlt L4.out)
        obtain ⟨v0, hv0⟩ := cell_lt (C := C) (i := k * 2) (by omega)
        obtain ⟨v1, hv1⟩ := cell_lt (C := C) (i := k * 2 + 1) (by omega)
        have x0 := (Mem.cell_of hg (k * 2)).trans hv0
        have x1 := (Mem.cell_of hg (k * 2 + 1)).trans hv1
        have y0 := Mem.free_of hg (k * 2)
        have y1 := Mem.free_of hg (k * 2 + 1)
        have e6 : ((k : Int) < (l4 : Int)) = True := eq_true (Int.ofNat_lt.2 hlt)
        have e7 : (k < l4) = True := eq_true hlt
        have hkn : (k : Int).toNat = k := Int.toNat_natCast k
        have hkp : (0 : Int) ≤ (k : Int) := Int.natCast_nonneg k
        have ha : (⟨g, 0, none⟩ : Addr).add (k * 2) = ⟨g, k * 2, none⟩ := add_plain _ _
        clear hlt h1 h2 h3 h4 hbg hgt hg hC hv0 hv1
        go_wp2_with (fail)
        refine ⟨⟨k + 1, by rw [HN.out], ⟨by have := HLT.out; omega⟩, ⟨?_⟩, ⟨HW.out.trans (Wr.attr HG.out HBG.out HGT.out _ _ _ _)⟩⟩, dec_kid HLT.out HN.out⟩
        have hne : w.heap.size ≠ g := by have := TW.out; have := HGT.out; omega
        exact (Mem.set_other _ _ _ _ hne).trans ((Mem.set_other _ _ _ _ hne).trans HX.out)
      · have e6 : ((k : Int) < (l4 : Int)) = False := eq_false (by omega)
        have e7 : (k < l4) = False := eq_false hlt
        clear hlt h1 h2 h3 h4
        go_wp2_with (fail)
        go_loopw [3] (fun i wr => ∃ k : Nat, i = .int .i64 (k : Int) ∧ Aside0 (k ≤ l5) ∧ Aside0 (wr.heap[w.heap.size]? = some (.cells #[.int .i64 i0, .int .i64 i1, .string s0, .string s1, .slice A4 l4 c4, .slice A5 l5 c5] 27 (0, 0))) ∧ Aside0 (Wr b t w wr)) (fun i _ => l5 - (intOf i).toNat)
        case atStart => exact ⟨0, rfl, ⟨Nat.zero_le _⟩, HX, HW⟩
        case round =>
          clear HX HW b4 f4
          obtain ⟨q, rfl, HK, HX, HW⟩ := hrel
          have hSp := HW.out.sp _ _ HS0.out
          unfold Sp at hSp
          obtain ⟨_, _, _, _, _, _, _, _, _, _, he, h1, h2, h3, h4⟩ := hSp
          injection he with _ he
          injection he with _ he
          injection he with _ he
          injection he with _ he
          injection he with he he2
          injection he with e1 e2 e3
          subst e1 e2 e3
          injection he2 with he2
          injection he2 with e1 e2 e3
          subst e1 e2 e3
          have b4 := Mem.cell_of HX.out 4
          have f4 := Mem.cell_of HX.out 5
          by_cases hlt : q < l5
          · obtain ⟨g, C, rfl, hbg, hgt, hg, hD⟩ := h4 (by omega)
            obtain ⟨ds, hd6, hdc, hds⟩ := hD q hlt
            obtain ⟨m, rfl⟩ := hds.pos
            have hds2 := hds
            unfold Sp at hds2
            obtain ⟨j0, j1, u0, u1, B4, m4, e4, B5, m5, e5, rfl, _⟩ := hds2
            have HBG := Aside0.mk hbg
            have HGT := Aside0.mk hgt
            have HDS := Aside0.mk hds
            have HLT := Aside0.mk hlt
            have HN := Aside0.mk (wrap_in hlt L5.out)
            have x0 := (Mem.cell_of hg (q * 6)).trans (hdc 0 _ rfl)
            have x1 := (Mem.cell_of hg (q * 6 + 1)).trans (hdc 1 _ rfl)
            have x2 := (Mem.cell_of hg (q * 6 + 2)).trans (hdc 2 _ rfl)
            have x3 := (Mem.cell_of hg (q * 6 + 3)).trans (hdc 3 _ rfl)
            have x4 := (Mem.cell_of hg (q * 6 + 4)).trans (hdc 4 _ rfl)
            have x5 := (Mem.cell_of hg (q * 6 + 5)).trans (hdc 5 _ rfl)
            have e6' : ((q : Int) < (l5 : Int)) = True := eq_true (Int.ofNat_lt.2 hlt)
            have e7' : (q < l5) = True := eq_true hlt
            have hkn : (q : Int).toNat = q := Int.toNat_natCast q
            have hkp : (0 : Int) ≤ (q : Int) := Int.natCast_nonneg q
            have ha : (⟨g, 0, none⟩ : Addr).add (q * 6) = ⟨g, q * 6, none⟩ := add_plain _ _
            clear hlt h1 h2 h3 h4 hbg hgt hg hdc hds hD
            go_wp2_with (fail)
            refine (IH.out wr _ HDS.out BT.out (Nat.le_trans TW.out HW.out.low.size)).mono ?_
            rintro e w3 ⟨⟨v, rfl⟩, hw3⟩
            dsimp only
            have HW3 := Aside0.mk (HW.out.trans hw3)
            have HX3 := Aside0.mk ((hw3.high _ TW.out (blk_lt HX.out)).trans HX.out)
            clear hw3 b4 f4 x0 x1 x2 x3 x4 x5
            have hSp := HW3.out.sp _ _ HS0.out
            unfold Sp at hSp
            obtain ⟨_, _, _, _, _, _, _, _, _, _, he, _, _, _, h4⟩ := hSp
            injection he with _ he
            injection he with _ he
            injection he with _ he
            injection he with _ he
            injection he with he he2
            injection he with e1 e2 e3
            subst e1 e2 e3
            injection he2 with he2
            injection he2 with e1 e2 e3
            subst e1 e2 e3
            obtain ⟨g', C, eg, hbg, hgt, hg, hD⟩ := h4 (by have := HLT.out; omega)
            injection eg with eg
            injection eg with eg
            subst eg
            obtain ⟨ds, hd6, hdc, hds⟩ := hD q HLT.out
            have HG := Aside0.mk hg
            obtain ⟨u, hu⟩ : ∃ u, ds[5]? = some u := ⟨ds[5], List.getElem?_eq_getElem (by omega)⟩
            have HCC : Aside0 (q * 6 + 6 ≤ C.size) := ⟨by have := (Array.getElem?_eq_some_iff.1 (hdc 5 u hu)).1; omega⟩
            obtain ⟨v0, hv0⟩ := cell_lt (C := C) (i := q * 6) (by have := HCC.out; omega)
            obtain ⟨v1, hv1⟩ := cell_lt (C := C) (i := q * 6 + 1) (by have := HCC.out; omega)
            obtain ⟨v2, hv2⟩ := cell_lt (C := C) (i := q * 6 + 2) (by have := HCC.out; omega)
            obtain ⟨v3, hv3⟩ := cell_lt (C := C) (i := q * 6 + 3) (by have := HCC.out; omega)
            obtain ⟨v4, hv4⟩ := cell_lt (C := C) (i := q * 6 + 4) (by have := HCC.out; omega)
            obtain ⟨v5, hv5⟩ := cell_lt (C := C) (i := q * 6 + 5) (by have := HCC.out; omega)
            have x0 := (Mem.cell_of hg (q * 6)).trans hv0
            have x1 := (Mem.cell_of hg (q * 6 + 1)).trans hv1
            have x2 := (Mem.cell_of hg (q * 6 + 2)).trans hv2
            have x3 := (Mem.cell_of hg (q * 6 + 3)).trans hv3
            have x4 := (Mem.cell_of hg (q * 6 + 4)).trans hv4
            have x5 := (Mem.cell_of hg (q * 6 + 5)).trans hv5
            have y0 := Mem.free_of hg (q * 6)
            have y1 := Mem.free_of hg (q * 6 + 1)
            have y2 := Mem.free_of hg (q * 6 + 2)
            have y3 := Mem.free_of hg (q * 6 + 3)
            have y4 := Mem.free_of hg (q * 6 + 4)
            have y5 := Mem.free_of hg (q * 6 + 5)
            have b4 := Mem.cell_of HX3.out 4
            have f4 := Mem.cell_of HX3.out 5
            clear hbg hgt hg hD hd6 hdc hds hu h4 hv0 hv1 hv2 hv3 hv4 hv5
            go_wp2_with (fail)
            refine ⟨⟨q + 1, by rw [HN.out], ⟨by have := HLT.out; omega⟩, ⟨?_⟩, ⟨HW3.out.trans (Wr.leaf HG.out HBG.out HGT.out HCC.out)⟩⟩, dec_kid HLT.out HN.out⟩
            have hne : w.heap.size ≠ g := by have := TW.out; have := HGT.out; omega
            exact (Mem.set_other _ _ _ _ hne).trans ((Mem.set_other _ _ _ _ hne).trans ((Mem.set_other _ _ _ _ hne).trans ((Mem.set_other _ _ _ _ hne).trans ((Mem.set_other _ _ _ _ hne).trans ((Mem.set_other _ _ _ _ hne).trans HX3.out)))))
          · have e6' : ((q : Int) < (l5 : Int)) = False := eq_false (by omega)
            have e7' : (q < l5) = False := eq_false hlt
            clear hlt h1 h2 h3 h4
            go_wp2_with (fail)
            go_end0
            exact ⟨⟨_, rfl⟩, HW.out⟩
end Go.Proofs.Ytnkbgimihikhoaa.PVt
namespace Go.Proofs.Ytnkbgimihikhoaa.PVt
open Go.RowKit Go.Proofs.YtnkbgimihikhoaaW.PrintWords Go.Proofs.YtnkbgimihikhoaaW.PrintLast Go.Proofs.YtnkbgimihikhoaaW.PrintMore
set_option linter.unusedVariables false
set_option linter.unusedSimpArgs false
def vcopyR (k : Nat) (x : S27) : Option (Int × Int × ByteArray × ByteArray × (List S99) × (List S27)) := vtree_Copy.f k x.f0.f0 x.f0.f1 x.f1 x.f2 x.f3 x.f4
section
attribute [local irreducible] wtT wtTs szT szTs eqT eqTs fitT fitTs
theorem vcopy_l (q : Nat) (ih : ∀ (x : S27) (k : Nat), szT x ≤ q → fitT x → wtT x ≤ k → vcopyR k x = some (x.f0.f0, x.f0.f1, x.f1, x.f2, x.f3, x.f4)) (x : S27) (hq : szTs x.f4 ≤ q) (hf : fitTs x.f4) (hl : x.f4.length ≤ 1466015503701) :
    ∀ (n i k : Nat), i + n = x.f4.length → wtTs (x.f4.drop i) + 1 ≤ k → vtree_Copy.l0 k (x.f4.take i) x.f4 (x.f4.length : Int) (i : Int) x.f0.f0 x.f0.f1 x.f1 x.f2 x.f3 x.f4 = some (x.f0.f0, x.f0.f1, x.f1, x.f2, x.f3, x.f4)
  | 0, i, 0, h, hk => by omega
  | 0, i, k + 1, h, hk => by
    simp only [vtree_Copy.l0]
    rw [if_neg (by omega), List.take_of_length_le (by omega)]
  | n + 1, i, 0, h, hk => by omega
  | n + 1, i, k + 1, h, hk => by
    rw [wtTs_drop x.f4 (k := i) (by omega)] at hk
    have hw4 := wtT_eq (x.f4.getD i z27)
    have go := vcopy_l q ih x hq hf hl n (i + 1) k (by omega) (by omega)
    have hw := wrap_in (k := i) (n := x.f4.length) (by omega) (Nat.le_trans hl (by decide))
    have hkid := ih (x.f4.getD i z27) k (Nat.le_trans (szT_kid x.f4 (by omega)) hq) (fitTs_get hf (by omega)) (by omega)
    unfold vcopyR at hkid
    have c1 : (i : Int) < (x.f4.length : Int) := by omega
    have c2 : (0 : Int) ≤ (i : Int) := Int.natCast_nonneg i
    have d1 : i < x.f4.length := by omega
    have c3 := take_small d1 hl
    clear hk hw4 h
    simp only [vtree_Copy.l0]
    rw [if_pos c1, if_pos c2, if_pos c1, rd27, hkid, Option.bind_some, if_pos c3, hw]
    rw [take_snoc27 x.f4 d1] at go
    rw [eta27]
    exact go
theorem make_small {n : Nat} (h : n ≤ 1466015503701) : ((n : Int)).toNat ≤ 2932031007402 := by omega
theorem vcopy_f : ∀ (q : Nat) (x : S27) (k : Nat), szT x ≤ q → fitT x → wtT x ≤ k → vcopyR k x = some (x.f0.f0, x.f0.f1, x.f1, x.f2, x.f3, x.f4)
  | 0, x, k, h, _, _ => by have := szT_pos x; omega
  | q + 1, x, k, h, hf, hk => by
    have hsz := szT_eq x
    have hwt := wtT_eq x
    obtain ⟨f1, f2, ⟨f3, _⟩, f4, f5⟩ := (fitT_eq x).1 hf
    rw [reach_eq] at f3 f4
    obtain ⟨k, rfl⟩ : ∃ j, k = j + 1 := ⟨k - 1, by omega⟩
    have := vcopy_l q (fun x k h1 h2 h3 => vcopy_f q x k h1 h2 h3) x (by omega) f5 (kid_small f4) x.f4.length 0 k (Nat.zero_add _) (by rw [List.drop_zero]; omega)
    rw [show ((0 : Nat) : Int) = 0 from rfl, List.take_zero] at this
    unfold vcopyR
    simp only [vtree_Copy.f]
    rw [Option.bind_some, if_pos (by rw [List.length_nil, Nat.zero_add]; exact attr_small f3), if_pos (Int.natCast_nonneg _), if_pos (make_small (kid_small f4)), List.nil_append]
    exact this
end
/-- A node's cells. -/
abbrev cs27 (x : S27) (A4 : Option Addr) (c4 : Nat) (A5 : Option Addr) (c5 : Nat) : Array Value := #[.int .i64 x.f0.f0, .int .i64 x.f0.f1, .string x.f1, .string x.f2, .slice A4 x.f3.length c4, .slice A5 x.f4.length c5]
/-- What a copy gives: the same in blocks from base on. -/
theorem made_of (w' : World) (base : Nat) (x : S27) (v4 v5 : Value) (h4 : Kd.R k99 99 w' base (fun _ => True) v4 x.f3) (h5 : Kd.R k27 27 w' base (fun k_ => some k_ ≠ (v4 : Value).ownBlock) v5 x.f4) :
    ∃ A4 c4 A5 c5, v4 = .slice A4 x.f3.length c4 ∧ v5 = .slice A5 x.f4.length c5 ∧ k27.M w' base (fun _ => True) x [.int .i64 x.f0.f0, .int .i64 x.f0.f1, .string x.f1, .string x.f2, .slice A4 x.f3.length c4, .slice A5 x.f4.length c5] := by
  obtain ⟨B4, e4, rfl⟩ := Kd.R_slice h4
  obtain ⟨B5, e5, rfl⟩ := Kd.R_slice h5
  exact ⟨B4, e4, B5, e5, rfl, rfl, k27_mkM _ _ _ x h4 (Kd.R_mono h5 (fun _ _ => trivial))⟩
theorem vcopy_calls (w : World) (x : S27) (A4 : Option Addr) (c4 : Nat) (A5 : Option Addr) (c5 : Nat) (hx : RK w x A4 c4 A5 c5) (hf : fitT x) :
    Calls Try.prog 25 #[.agg (cs27 x A4 c4 A5 c5)] w fun e w' => ∃ B4 e4 B5 e5, e = .returned (.agg (cs27 x B4 e4 B5 e5)) ∧ k27.M w' w.heap.size (fun _ => True) x (cs27 x B4 e4 B5 e5).toList ∧ Below w.heap.size w w' :=
  (vtree_Copy.calls (wtT x) _ _ _ _ A4 c4 x.f3 A5 c5 x.f4 _ _ _ _ _ _ w hx.2.1 hx.1 hx.2.2.2 hx.2.2.1 (vcopy_f (szT x) x (wtT x) (Nat.le_refl _) hf (Nat.le_refl _))).mono fun e w' ⟨v4, v5, he, h4, h5, hB⟩ => by
    obtain ⟨B4, e4, B5, e5, rfl, rfl, hM⟩ := made_of w' _ x v4 v5 h4 h5
    exact ⟨B4, e4, B5, e5, he, hM, hB⟩
theorem rcopyM_calls (w : World) (x : S27) (A4 : Option Addr) (c4 : Nat) (A5 : Option Addr) (c5 : Nat) (hx : RK w x A4 c4 A5 c5) (hf : fitT x) :
    Calls Try.prog 11 #[.agg (cs27 x A4 c4 A5 c5)] w fun e w' => ∃ B4 e4 B5 e5, e = .returned (.agg (cs27 x B4 e4 B5 e5)) ∧ k27.M w' w.heap.size (fun _ => True) x (cs27 x B4 e4 B5 e5).toList ∧ Below w.heap.size w w' :=
  (topiaryref15_Copy.calls (wtT x) _ _ _ _ A4 c4 x.f3 A5 c5 x.f4 _ _ _ _ _ _ w hx.2.1 hx.1 hx.2.2.2 hx.2.2.1 (rcopy_f (szT x) x (wtT x) (Nat.le_refl _) hf (Nat.le_refl _))).mono fun e w' ⟨v4, v5, he, h4, h5, hB⟩ => by
    obtain ⟨B4, e4, B5, e5, rfl, rfl, hM⟩ := made_of w' _ x v4 v5 h4 h5
    exact ⟨B4, e4, B5, e5, he, hM, hB⟩
/-- Cells that read. -/
theorem RK.of {w : World} {x : S27} {A4 : Option Addr} {c4 : Nat} {A5 : Option Addr} {c5 : Nat} (h : k27.K w x (cs27 x A4 c4 A5 c5).toList) : RK w x A4 c4 A5 c5 := by
  obtain ⟨B4, e4, B5, e5, he, l4, g4, l5, g5⟩ := k27_open h
  injection he with _ he
  injection he with _ he
  injection he with _ he
  injection he with _ he
  injection he with he he2
  injection he with e1 e2 e3
  subst e1 e3
  injection he2 with he2
  injection he2 with e1 e2 e3
  subst e1 e3
  exact ⟨l4, g4, l5, g5⟩
theorem RK.K {w : World} {x : S27} {A4 : Option Addr} {c4 : Nat} {A5 : Option Addr} {c5 : Nat} (h : RK w x A4 c4 A5 c5) : k27.K w x (cs27 x A4 c4 A5 c5).toList := k27_mk w x h.1 h.2.1 h.2.2.1 h.2.2.2
/-- What was made may be spoilt. -/
theorem Sp.made {w : World} {base : Nat} : ∀ (n : Nat) (ok : Nat → Prop) (x : S27) (cs : List Value), szT x ≤ n → k27.M w base ok x cs → Sp base w.heap.size w n cs
  | 0, _, x, _, h, _ => by have := szT_pos x; omega
  | n + 1, ok, x, cs, h, hM => by
    have hsz := szT_eq x
    obtain ⟨v4, v5, rfl, ⟨_, in4, ho4, hr4⟩, ⟨_, in5, ho5, hr5⟩⟩ := k27_openM hM
    have hkid : ∀ j, j < x.f4.length → szT (x.f4.getD j z27) ≤ n := fun j hj => by have := szT_kid x.f4 hj; omega
    clear h hsz hM
    unfold Sp
    have key4 : ∃ A4 c4, v4 = .slice A4 x.f3.length c4 ∧ x.f3.length ≤ 9223372036854775807 ∧ (0 < x.f3.length → ∃ g C, A4 = some ⟨g, 0, none⟩ ∧ base ≤ g ∧ g < w.heap.size ∧ w.heap[g]? = some (.cells C 99 (0, 0)) ∧ x.f3.length * 2 ≤ C.size) := by
      rcases ho4.2 with ⟨rfl, h0⟩ | ⟨g, cap, cur, rfl, hb, hh, hn, hm, hs, _⟩
      · exact ⟨none, 0, by rw [h0], by omega, fun h => by omega⟩
      · refine ⟨_, _, rfl, ?_, fun _ => ⟨g, cur, rfl, hb, (Array.getElem?_eq_some_iff.1 hh).1, hh, ?_⟩⟩
        · simp only [maxLen] at hm; omega
        · have hs2 : cur.size = cap * 2 := hs
          omega
    have key5 : ∃ A5 c5, v5 = .slice A5 x.f4.length c5 ∧ x.f4.length ≤ 9223372036854775807 ∧ (0 < x.f4.length → ∃ g C, A5 = some ⟨g, 0, none⟩ ∧ base ≤ g ∧ g < w.heap.size ∧ w.heap[g]? = some (.cells C 27 (0, 0)) ∧ ∀ j, j < x.f4.length → ∃ ds : List Value, ds.length = 6 ∧ (∀ i u, ds[i]? = some u → C[j * 6 + i]? = some u) ∧ Sp base w.heap.size w n ds) := by
      rcases ho5.2 with ⟨rfl, h0⟩ | ⟨g, cap, cur, rfl, hb, hh, hn, hm, hs, ht⟩
      · exact ⟨none, 0, by rw [h0], by omega, fun h => by omega⟩
      · refine ⟨_, _, rfl, by simp only [maxLen] at hm; omega, fun _ => ⟨g, cur, rfl, hb, (Array.getElem?_eq_some_iff.1 hh).1, hh, fun j hj => ?_⟩⟩
        have hp : x.f4[j]? = some (x.f4.getD j z27) := by rw [List.getD_eq_getElem?_getD, List.getElem?_eq_getElem hj]; rfl
        have hMk := hr5.2 j _ hp
        have hlen : ((in5.drop (j * 6)).take 6).length = 6 := k27.K_len (k27.K_of_M hMk)
        refine ⟨(in5.drop (j * 6)).take 6, hlen, fun i u hu => ?_, Sp.made n _ _ _ (hkid j hj) hMk⟩
        have hi : i < 6 := by rw [← hlen]; exact (List.getElem?_eq_some_iff.1 hu).1
        have ht2 : cur.toList.take (x.f4.length * 6) = in5 := ht
        rw [List.getElem?_take_of_lt hi, List.getElem?_drop, ← ht2, List.getElem?_take_of_lt (by omega), Array.getElem?_toList] at hu
        exact hu
    obtain ⟨A4, c4, rfl, k1, k2⟩ := key4
    obtain ⟨A5, c5, rfl, k3, k4⟩ := key5
    exact ⟨_, _, _, _, A4, _, c4, A5, _, c5, rfl, k1, k3, k2, k4⟩
end Go.Proofs.Ytnkbgimihikhoaa.PVt
