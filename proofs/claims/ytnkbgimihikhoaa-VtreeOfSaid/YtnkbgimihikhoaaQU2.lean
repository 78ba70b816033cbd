/- What the statement's row needs of this session's texts, joined by program: part 3. -/
import Derived.Test.YtnkbgimihikhoaaQU1
namespace Go.Proofs.Ytnkbgimihikhoaa.PVt
open Go.RowKit Go.Proofs.YtnkbgimihikhoaaW.PrintWords Go.Proofs.YtnkbgimihikhoaaW.PrintLast Go.Proofs.YtnkbgimihikhoaaW.PrintMore
attribute [local go_sem] max2_int min2_int max_two min_two max_three min_three max_four min_four
set_option linter.unusedVariables false
set_option linter.unusedSimpArgs false
attribute [local go_sem high] eqA23
def topiaryref13_Attrs.l0 : Nat → List (S111) → List (S99) → Int → Int → Int → Option ((List (S99)))
 | 0, _, _, _, _, _ => none
 | k + 1, x0, x5, x6, x182000, x182001 => if x6 < (x0.length : Int) then (if 0 ≤ x6 then (if (((rd_T111 x0 x6).f0.f0) == x182000 && (((rd_T111 x0 x6).f0.f1) == x182001)) = true then (if ((rd_T111 x0 x6).f1).toList = ([] : List UInt8) then (topiaryref13_Attrs.l0 k x0 x5 (wrap64 (x6 + 1)) x182000 x182001) else (if ((rd_T111 x0 x6).f4 = true) then (topiaryref13_Attrs.l0 k x0 x5 (wrap64 (x6 + 1)) x182000 x182001) else (if x5.length < 4398046511104 then (topiaryref13_Attrs.l0 k x0 (x5 ++ [(⟨(rd_T111 x0 x6).f1, (rd_T111 x0 x6).f3⟩ : S99)]) (wrap64 (x6 + 1)) x182000 x182001) else (none)))) else (topiaryref13_Attrs.l0 k x0 x5 (wrap64 (x6 + 1)) x182000 x182001)) else (none)) else (some x5)
def topiaryref13_Attrs.f (k : Nat) (l0 : List (S111)) (a1_0 : Int) (a1_1 : Int) : Option ((List (S99))) := topiaryref13_Attrs.l0 k l0 (([] : List (S99))) 0 a1_0 a1_1
def topiaryref13_Attrs.T5 : Bool × List (List Nat × List Nat) := (true, [([], []), ([], []), ([0, 1], [0, 1]), ([2], [2]), ([3], [3]), ([], []), ([4, 5], [4, 5]), ([6], [6]), ([7], [7]), ([7], [7]), ([8, 9, 7], [7, 8, 9]), ([10, 7], [7, 10]), ([11, 7], [7, 11]), ([12, 7], [7, 12]), ([7, 13], [7, 13]), ([14, 7], [14]), ([15], [15]), ([15], [15]), ([16, 17, 15], [15, 16, 17]), ([18, 15], [15, 18]), ([19, 15], [15, 19]), ([20, 15], [15, 20]), ([15, 21], [15, 21])])
def topiaryref13_Attrs.B5 : List Nat := [0, 0, 3, 7, 15, 0, 63, 127, 255, 255, 1023, 2047, 4095, 8191, 16383, 32767, 65535, 65535, 262143, 524287, 1048575, 2097151, 4194303]
theorem topiaryref13_Attrs.tab5 : rtab .any (opsOf Try.f72 5) = topiaryref13_Attrs.T5 := by kernel_rfl
theorem topiaryref13_Attrs.bits5 : waitsOk topiaryref13_Attrs.T5.2 topiaryref13_Attrs.B5 = true := by kernel_rfl
def topiaryref13_Attrs.T6 : Bool × List (List Nat × List Nat) := (true, [([], []), ([], []), ([], []), ([1, 2], [1, 2]), ([3], [3]), ([4], [4]), ([], []), ([], []), ([6, 7], [6, 7]), ([8], [8]), ([9], [9]), ([5, 10], [5, 10]), ([11], [11]), ([0, 12], [0, 12]), ([13, 13, 0, 1, 2, 3, 4, 5, 6, 7, 8, 9, 10, 11, 12, 13], [0, 13])])
def topiaryref13_Attrs.B6 : List Nat := [0, 0, 0, 6, 14, 30, 0, 0, 192, 448, 960, 2046, 4094, 8191, 16383]
theorem topiaryref13_Attrs.tab6 : rtab .any (opsOf Try.f72 6) = topiaryref13_Attrs.T6 := by kernel_rfl
theorem topiaryref13_Attrs.bits6 : waitsOk topiaryref13_Attrs.T6.2 topiaryref13_Attrs.B6 = true := by kernel_rfl
set_option maxHeartbeats 8000000 in
set_option maxRecDepth 100000 in
theorem topiaryref13_Attrs.calls (k : Nat) (A0 : Option Addr) (c0 : Nat) (l0 : List (S111)) (a1_0 : Int) (a1_1 : Int) (r : List (S99)) (w : World) (hr0 : Kd.C k111 w A0 l0.length l0) (hc0 : l0.length ≤ c0) (h : topiaryref13_Attrs.f k l0 a1_0 a1_1 = some r) :
  Calls Try.prog 72 #[.slice A0 l0.length c0, .agg #[.int .i64 a1_0, .int .i64 a1_1]] w fun e w' => ∃ v0_ : Value, e = .returned (v0_) ∧ Kd.R k99 99 w' w.heap.size (fun _ => True) v0_ r ∧ Below w.heap.size w w' := by
 have hu23 := Try.underlying23
 have hu99 := Try.underlying99
 have HR0 := Aside0.mk hr0
 have HC0 := Aside0.mk hc0
 clear hr0 hc0
 have HB := Aside0.mk (Below.refl w.heap.size w)
 have H : (topiaryref13_Attrs.l0 k l0 (([] : List (S99))) 0 a1_0 a1_1) = some r := h
 clear h
 obtain ⟨y182, hy182⟩ : ∃ y_ : List (S99), y_ = (([] : List (S99))) := ⟨_, rfl⟩
 replace H : (topiaryref13_Attrs.l0 k l0 y182 0 a1_0 a1_1) = some r := by first | (rw [hy182]; with_reducible exact H) | (have H2_ := (Option.bind_some _ _).symm.trans H; rw [hy182]; with_reducible exact H2_) | (have H2_ := (Option.bind_some _ _).symm.trans H; with_reducible exact H2_) | with_reducible exact H | (rw [hy182]; exact H) | exact H
 have Ny182 := Aside0.mk hy182
 clear hy182
 have H' := Aside0.mk H
 clear H
 go_enter Try.func72, Try.ntmps72
 go_wp2_with (first | ((with_reducible refine gate_dst (N := 3) rfl ?_); refine boxE (N := 3) (cs := #[.int .i64 a1_0, .int .i64 a1_1]) (t := 23) ?_; intro gb181 hg w3 hbox hb; have BK181 := Aside0.mk (hbox); have GW181 := Aside0.mk ((by rw [hg]; exact (below_size (bS HB)) : w.heap.size ≤ gb181)); have GE181 := Aside0.mk ((by rw [hg]; exact (below_size (bS HB)) : w.heap.size ≤ gb181)); replace HB := Aside0.mk (below_step (bS HB) hb); clear hb hbox hg) | ((with_reducible refine gate_dst (N := 7) rfl ?_); refine Kd.R_lit k99 _ 99 ?hg (N := 7) ?hd (xs := ([] : List (S99))) (inner := []) (ok := fun _ => True) (okp := fun _ => True) ?hr ?hp (fun _ hk => hk) trivial (Below.refl _ _) (Nat.le_refl _) (by simp) ?_; (case hd => rfl); (case hg => rfl); (case hr => first | (go_simp; done) | (go_simp; rfl)); (case hp => exact (Reps.none _ _)); intro v183 w4 ho5 hb hg_ hnew_; clear hg_ hnew_; (first | rw [← Ny182.out] at ho5 | (simp only [Int.reduceToNat] at ho5; rw [← Ny182.out] at ho5)); have HO184 := Aside0.mk (Kd.R_lower ho5 (below_size (bS1 HB GE181))); replace BK181 := bB BK181 hb; replace HB := Aside0.mk (below_step (bS1 HB GE181) hb); clear hb ho5))
 go_loopg [5, 6] k (fun kq v5 v6 w' => ∃ (x5_1 : List (S99)) (x6_1 : Int), v6 = .int .i64 x6_1 ∧ Aside0 (topiaryref13_Attrs.l0 kq l0 x5_1 x6_1 a1_0 a1_1 = some r) ∧ Aside0 (kq ≤ k) ∧ Aside0 (Kd.R k99 99 w' w.heap.size (fun _ => True) v5 x5_1) ∧ Aside0 (w'.heap[gb181]? = some (.cells #[.int .i64 a1_0, .int .i64 a1_1] 23 (0, 0))) ∧ Aside0 (Below w.heap.size w w'))
 case atStart => exact ⟨(y182), (0), (by first | rfl | (simp; done) | (simp [*]; done)), H', ⟨Nat.le_refl _⟩, ⟨by (with_reducible repeat (first | apply Kd.R_alloc | apply Kd.R_drewN | apply Kd.R_drew)); exact HO184.out⟩, ⟨by (with_reducible repeat (first | refine blk_drewN ?_ _ | refine blk_drew ?_ | refine blk_alloc ?_ _)); exact BK181.out⟩, ⟨bS1 HB GE181⟩⟩
 case round =>
  clear H'
  (try clear p2)
  obtain ⟨x5_1, x6_1, rfl, HA, HK1, HO_5, BK181, HB⟩ := hrel
  cases gk with
  | zero => exact absurd HA.out (by simp [topiaryref13_Attrs.l0])
  | succ k1 =>
   have H := HA.out
   clear HA
   simp only [topiaryref13_Attrs.l0] at H
   by_cases c6 : x6_1 < (l0.length : Int)
   ·rw [if_pos c6] at H
    have c6b0 : decide (x6_1 < (l0.length : Int)) = true := decide_eq_true c6
    clear c6
    by_cases c7 : 0 ≤ x6_1
    ·rw [if_pos c7] at H
     have c7b0 : decide (0 ≤ x6_1) = true := decide_eq_true c7
     clear c7
     by_cases c8 : (((rd_T111 l0 x6_1).f0.f0) == a1_0 && (((rd_T111 l0 x6_1).f0.f1) == a1_1)) = true
     ·rw [if_pos c8] at H
      have c8b0 : (((rd_T111 l0 x6_1).f0.f0) == a1_0 && (((rd_T111 l0 x6_1).f0.f1) == a1_1)) = true := c8
      (try (have c8b1 : decide (((rd_T111 l0 x6_1).f0.f0) = a1_0 && (((rd_T111 l0 x6_1).f0.f1) == a1_1)) = true := by simpa using c8))
      (try (have c8b2 : (((rd_T111 l0 x6_1).f0.f0) == a1_0 && (((rd_T111 l0 x6_1).f0.f1) == a1_1)) = true := by simpa using c8))
      clear c8
      by_cases c9 : ((rd_T111 l0 x6_1).f1).toList = ([] : List UInt8)
      ·rw [if_pos c9] at H
       have c9b0 : (((rd_T111 l0 x6_1).f1).toList == ([] : List UInt8)) = true := beq_iff_eq.mpr c9
       have c9b1 : (((rd_T111 l0 x6_1).f1).toList != ([] : List UInt8)) = false := bne_eq_false_iff_eq.mpr c9
       clear c9
       have H' := Aside0.mk H
       clear H
       try go_wp2
       replace HO_5 := Aside0.mk (Kd.R_drew HO_5.out)
       replace BK181 := Aside0.mk (blk_drew BK181.out)
       replace HB := Aside0.mk (below_drew1 HB.out)
       have p185 : 0 ≤ (x6_1 : Int) := of_decide_eq_true asmS
       have q185 : x6_1 < (l0.length : Int) := of_decide_eq_true asmS
       obtain ⟨ad185, e185, hx185_0, hx185_1, hx185_2, hx185_3, hx185_4, hx185_5, hx185_6⟩ := at_T111 HR0.out x6_1 p185 q185
       have hw185_6 := hx185_6
       have hw185_5 := hx185_5
       have hw185_4 := hx185_4
       have hw185_3 := hx185_3
       have hw185_2 := hx185_2
       have hw185_1 := hx185_1
       have hw185_0 := hx185_0
       cases e185
       replace hx185_0 := (HB.out.cell (World.block_lt_of_cell? w _ hx185_0)).trans hx185_0
       replace hx185_1 := (HB.out.cell (World.block_lt_of_cell? w _ hx185_1)).trans hx185_1
       replace hx185_2 := (HB.out.cell (World.block_lt_of_cell? w _ hx185_2)).trans hx185_2
       replace hx185_3 := (HB.out.cell (World.block_lt_of_cell? w _ hx185_3)).trans hx185_3
       replace hx185_4 := (HB.out.cell (World.block_lt_of_cell? w _ hx185_4)).trans hx185_4
       replace hx185_5 := (HB.out.cell (World.block_lt_of_cell? w _ hx185_5)).trans hx185_5
       replace hx185_6 := (HB.out.cell (World.block_lt_of_cell? w _ hx185_6)).trans hx185_6
       replace p185 := eq_true p185
       replace q185 := eq_true q185
       have p186 : 0 ≤ (x6_1 : Int) := of_decide_eq_true asmS
       have q186 : x6_1 < (l0.length : Int) := of_decide_eq_true asmS
       obtain ⟨ad186, e186, hx186_0, hx186_1, hx186_2, hx186_3, hx186_4, hx186_5, hx186_6⟩ := at_T111 HR0.out x6_1 p186 q186
       have hw186_6 := hx186_6
       have hw186_5 := hx186_5
       have hw186_4 := hx186_4
       have hw186_3 := hx186_3
       have hw186_2 := hx186_2
       have hw186_1 := hx186_1
       have hw186_0 := hx186_0
       obtain rfl : ad185 = ad186 := (by injection e186)
       replace hx186_0 := (HB.out.cell (World.block_lt_of_cell? w _ hx186_0)).trans hx186_0
       replace hx186_1 := (HB.out.cell (World.block_lt_of_cell? w _ hx186_1)).trans hx186_1
       replace hx186_2 := (HB.out.cell (World.block_lt_of_cell? w _ hx186_2)).trans hx186_2
       replace hx186_3 := (HB.out.cell (World.block_lt_of_cell? w _ hx186_3)).trans hx186_3
       replace hx186_4 := (HB.out.cell (World.block_lt_of_cell? w _ hx186_4)).trans hx186_4
       replace hx186_5 := (HB.out.cell (World.block_lt_of_cell? w _ hx186_5)).trans hx186_5
       replace hx186_6 := (HB.out.cell (World.block_lt_of_cell? w _ hx186_6)).trans hx186_6
       replace p186 := eq_true p186
       replace q186 := eq_true q186
       refine startS (n := 23) (S := fun w' => w'.cell? ⟨gb181, 0, none⟩ = some (.int .i64 a1_0) ∧ w'.cell? ⟨gb181, 1, none⟩ = some (.int .i64 a1_1) ∧ w'.cell? (ad185.add ((x6_1).toNat * 7)) = some (.int .i64 ((rd_T111 l0 x6_1).f0.f0)) ∧ w'.cell? ⟨(ad185.add ((x6_1).toNat * 7)).block, (ad185.add ((x6_1).toNat * 7)).off + 1, none⟩ = some (.int .i64 ((rd_T111 l0 x6_1).f0.f1)) ∧ w'.cell? ⟨(ad185.add ((x6_1).toNat * 7)).block, (ad185.add ((x6_1).toNat * 7)).off + 2, none⟩ = some (.string ((rd_T111 l0 x6_1).f1)) ∧ w'.cell? ⟨(ad185.add ((x6_1).toNat * 7)).block, (ad185.add ((x6_1).toNat * 7)).off + 3, none⟩ = some (.int .i64 ((rd_T111 l0 x6_1).f2.f0)) ∧ w'.cell? ⟨(ad185.add ((x6_1).toNat * 7)).block, (ad185.add ((x6_1).toNat * 7)).off + 4, none⟩ = some (.int .i64 ((rd_T111 l0 x6_1).f2.f1)) ∧ w'.cell? ⟨(ad185.add ((x6_1).toNat * 7)).block, (ad185.add ((x6_1).toNat * 7)).off + 5, none⟩ = some (.string ((rd_T111 l0 x6_1).f3)) ∧ w'.cell? ⟨(ad185.add ((x6_1).toNat * 7)).block, (ad185.add ((x6_1).toNat * 7)).off + 6, none⟩ = some (.bool ((rd_T111 l0 x6_1).f4)) ∧ w'.cell? (ad185.add ((x6_1).toNat * 7)) = some (.int .i64 ((rd_T111 l0 x6_1).f0.f0)) ∧ w'.cell? ⟨(ad185.add ((x6_1).toNat * 7)).block, (ad185.add ((x6_1).toNat * 7)).off + 1, none⟩ = some (.int .i64 ((rd_T111 l0 x6_1).f0.f1)) ∧ w'.cell? ⟨(ad185.add ((x6_1).toNat * 7)).block, (ad185.add ((x6_1).toNat * 7)).off + 2, none⟩ = some (.string ((rd_T111 l0 x6_1).f1)) ∧ w'.cell? ⟨(ad185.add ((x6_1).toNat * 7)).block, (ad185.add ((x6_1).toNat * 7)).off + 3, none⟩ = some (.int .i64 ((rd_T111 l0 x6_1).f2.f0)) ∧ w'.cell? ⟨(ad185.add ((x6_1).toNat * 7)).block, (ad185.add ((x6_1).toNat * 7)).off + 4, none⟩ = some (.int .i64 ((rd_T111 l0 x6_1).f2.f1)) ∧ w'.cell? ⟨(ad185.add ((x6_1).toNat * 7)).block, (ad185.add ((x6_1).toNat * 7)).off + 5, none⟩ = some (.string ((rd_T111 l0 x6_1).f3)) ∧ w'.cell? ⟨(ad185.add ((x6_1).toNat * 7)).block, (ad185.add ((x6_1).toNat * 7)).off + 6, none⟩ = some (.bool ((rd_T111 l0 x6_1).f4))) (ds := []) ⟨(blk_cell BK181.out 0).trans rfl, (blk_cell BK181.out 1).trans rfl, cS HB hw185_0, cS HB hw185_1, cS HB hw185_2, cS HB hw185_3, cS HB hw185_4, cS HB hw185_5, cS HB hw185_6, cS HB hw186_0, cS HB hw186_1, cS HB hw186_2, cS HB hw186_3, cS HB hw186_4, cS HB hw186_5, cS HB hw186_6⟩ (fun hHeld => ?_); refine with_tabW topiaryref13_Attrs.tab5 topiaryref13_Attrs.bits5 (fun HT_ HW_ => ?_)
       generalize wr.drew = w10 at HO_5 BK181 HB hx185_0 hx185_1 hx185_2 hx185_3 hx185_4 hx185_5 hx185_6 hx186_0 hx186_1 hx186_2 hx186_3 hx186_4 hx186_5 hx186_6 hHeld ⊢
       refine pureT (i := 0) (N := some 14) HT_ ?_
       refine pureT (i := 1) (N := some 15) HT_ ?_
       refine pureT (i := 2) (N := some 16) HT_ ?_
       refine pureT (i := 3) (N := some 17) HT_ ?_
       refine takeS (i := 4) (N := some 18) (v := ?_) HT_ HW_ hHeld ?_ ?_
       rotate_left
       ·rintro w' ⟨s0, s1, s2, s3, s4, s5, s6, s7, s8, s9, s10, s11, s12, s13, s14, s15⟩
        go_simp
        with_reducible rfl
       refine normS (N := some 18) ?_
       refine takeS (i := 5) (N := some 19) (v := ?_) HT_ HW_ hHeld ?_ ?_
       rotate_left
       ·rintro w' ⟨s0, s1, s2, s3, s4, s5, s6, s7, s8, s9, s10, s11, s12, s13, s14, s15⟩
        go_simp
        with_reducible rfl
       refine normS (N := some 19) ?_
       refine pureT (i := 6) (N := some 20) HT_ ?_
       refine pureT (i := 7) (N := some 21) HT_ ?_
       refine pureT (i := 8) (N := some 22) HT_ ?_
       refine pureT (i := 9) (N := some 23) HT_ ?_
       refine pureT (i := 10) (N := some 24) HT_ ?_
       refine pureT (i := 11) (N := some 25) HT_ ?_
       refine takeS (i := 12) (N := some 26) (v := ?_) HT_ HW_ hHeld ?_ ?_
       rotate_left
       ·rintro w' ⟨s0, s1, s2, s3, s4, s5, s6, s7, s8, s9, s10, s11, s12, s13, s14, s15⟩
        go_simp
        with_reducible rfl
       refine normS (N := some 26) ?_
       refine pureT (i := 13) (N := some 27) HT_ ?_
       refine pureT (i := 14) (N := some 28) HT_ ?_
       refine pureT (i := 15) (N := some 29) HT_ ?_
       refine pureV (i := 16) (N := some 30) HT_ ?_
       refine pureV (i := 17) (N := some 31) HT_ ?_
       refine pureV (i := 18) (N := some 32) HT_ ?_
       refine pureV (i := 19) (N := some 33) HT_ ?_
       refine pureV (i := 20) (N := some 34) HT_ ?_
       refine pureV (i := 21) (N := some 35) HT_ ?_
       refine pureT (i := 22) (N := some 36) HT_ ?_
       refine done_ (done_of HT_.out (by kernel_rfl)) ?_
       try go_wp2
       go_roundg k1
       case measure => have := HK1.out; omega
       case rel => exact ⟨(x5_1), (wrap64 (x6_1 + 1)), (by first | rfl | (simp; done) | (simp [*]; done)), H', ⟨by have := HK1.out; omega⟩, ⟨by (with_reducible repeat (first | apply Kd.R_alloc | apply Kd.R_drewN | apply Kd.R_drew)); exact HO_5.out⟩, ⟨by (with_reducible repeat (first | refine blk_drewN ?_ _ | refine blk_drew ?_ | refine blk_alloc ?_ _)); exact BK181.out⟩, ⟨bS1 HB GE181⟩⟩
      ·rw [if_neg c9] at H
       have c9b0 : (((rd_T111 l0 x6_1).f1).toList == ([] : List UInt8)) = false := beq_eq_false_iff_ne.mpr c9
       have c9b1 : (((rd_T111 l0 x6_1).f1).toList != ([] : List UInt8)) = true := bne_iff_ne.mpr c9
       obtain ⟨bq11, hbq11⟩ : ∃ b_ : Bool, b_ = ((rd_T111 l0 x6_1).f4) := ⟨_, rfl⟩
       replace H : (if (bq11 = true) then (topiaryref13_Attrs.l0 k1 l0 x5_1 (wrap64 (x6_1 + 1)) a1_0 a1_1) else (if x5_1.length < 4398046511104 then (topiaryref13_Attrs.l0 k1 l0 (x5_1 ++ [(⟨(rd_T111 l0 x6_1).f1, (rd_T111 l0 x6_1).f3⟩ : S99)]) (wrap64 (x6_1 + 1)) a1_0 a1_1) else (none))) = some r := by rw [← hbq11] at H; exact H
       have Nbq11 := Aside0.mk hbq11
       clear hbq11
       by_cases c12 : (bq11 = true)
       ·subst c12
        have H1 : (topiaryref13_Attrs.l0 k1 l0 x5_1 (wrap64 (x6_1 + 1)) a1_0 a1_1) = some r := by rw [if_pos rfl] at H; exact H
        clear H
        have H := H1
        clear H1
        have H' := Aside0.mk H
        clear H
        try go_wp2
        replace HO_5 := Aside0.mk (Kd.R_drew HO_5.out)
        replace BK181 := Aside0.mk (blk_drew BK181.out)
        replace HB := Aside0.mk (below_drew1 HB.out)
        have p185 : 0 ≤ (x6_1 : Int) := of_decide_eq_true asmS
        have q185 : x6_1 < (l0.length : Int) := of_decide_eq_true asmS
        obtain ⟨ad185, e185, hx185_0, hx185_1, hx185_2, hx185_3, hx185_4, hx185_5, hx185_6⟩ := at_T111 HR0.out x6_1 p185 q185
        have hw185_6 := hx185_6
        have hw185_5 := hx185_5
        have hw185_4 := hx185_4
        have hw185_3 := hx185_3
        have hw185_2 := hx185_2
        have hw185_1 := hx185_1
        have hw185_0 := hx185_0
        (try rw [← Nbq11.out] at hx185_6)
        (try rw [← Nbq11.out] at hw185_6)
        cases e185
        replace hx185_0 := (HB.out.cell (World.block_lt_of_cell? w _ hx185_0)).trans hx185_0
        replace hx185_1 := (HB.out.cell (World.block_lt_of_cell? w _ hx185_1)).trans hx185_1
        replace hx185_2 := (HB.out.cell (World.block_lt_of_cell? w _ hx185_2)).trans hx185_2
        replace hx185_3 := (HB.out.cell (World.block_lt_of_cell? w _ hx185_3)).trans hx185_3
        replace hx185_4 := (HB.out.cell (World.block_lt_of_cell? w _ hx185_4)).trans hx185_4
        replace hx185_5 := (HB.out.cell (World.block_lt_of_cell? w _ hx185_5)).trans hx185_5
        replace hx185_6 := (HB.out.cell (World.block_lt_of_cell? w _ hx185_6)).trans hx185_6
        replace p185 := eq_true p185
        replace q185 := eq_true q185
        have p186 : 0 ≤ (x6_1 : Int) := of_decide_eq_true asmS
        have q186 : x6_1 < (l0.length : Int) := of_decide_eq_true asmS
        obtain ⟨ad186, e186, hx186_0, hx186_1, hx186_2, hx186_3, hx186_4, hx186_5, hx186_6⟩ := at_T111 HR0.out x6_1 p186 q186
        have hw186_6 := hx186_6
        have hw186_5 := hx186_5
        have hw186_4 := hx186_4
        have hw186_3 := hx186_3
        have hw186_2 := hx186_2
        have hw186_1 := hx186_1
        have hw186_0 := hx186_0
        (try rw [← Nbq11.out] at hx186_6)
        (try rw [← Nbq11.out] at hw186_6)
        obtain rfl : ad185 = ad186 := (by injection e186)
        replace hx186_0 := (HB.out.cell (World.block_lt_of_cell? w _ hx186_0)).trans hx186_0
        replace hx186_1 := (HB.out.cell (World.block_lt_of_cell? w _ hx186_1)).trans hx186_1
        replace hx186_2 := (HB.out.cell (World.block_lt_of_cell? w _ hx186_2)).trans hx186_2
        replace hx186_3 := (HB.out.cell (World.block_lt_of_cell? w _ hx186_3)).trans hx186_3
        replace hx186_4 := (HB.out.cell (World.block_lt_of_cell? w _ hx186_4)).trans hx186_4
        replace hx186_5 := (HB.out.cell (World.block_lt_of_cell? w _ hx186_5)).trans hx186_5
        replace hx186_6 := (HB.out.cell (World.block_lt_of_cell? w _ hx186_6)).trans hx186_6
        replace p186 := eq_true p186
        replace q186 := eq_true q186
        have p187 : 0 ≤ (x6_1 : Int) := of_decide_eq_true asmS
        have q187 : x6_1 < (l0.length : Int) := of_decide_eq_true asmS
        obtain ⟨ad187, e187, hx187_0, hx187_1, hx187_2, hx187_3, hx187_4, hx187_5, hx187_6⟩ := at_T111 HR0.out x6_1 p187 q187
        have hw187_6 := hx187_6
        have hw187_5 := hx187_5
        have hw187_4 := hx187_4
        have hw187_3 := hx187_3
        have hw187_2 := hx187_2
        have hw187_1 := hx187_1
        have hw187_0 := hx187_0
        (try rw [← Nbq11.out] at hx187_6)
        (try rw [← Nbq11.out] at hw187_6)
        obtain rfl : ad185 = ad187 := (by injection e187)
        replace hx187_0 := (HB.out.cell (World.block_lt_of_cell? w _ hx187_0)).trans hx187_0
        replace hx187_1 := (HB.out.cell (World.block_lt_of_cell? w _ hx187_1)).trans hx187_1
        replace hx187_2 := (HB.out.cell (World.block_lt_of_cell? w _ hx187_2)).trans hx187_2
        replace hx187_3 := (HB.out.cell (World.block_lt_of_cell? w _ hx187_3)).trans hx187_3
        replace hx187_4 := (HB.out.cell (World.block_lt_of_cell? w _ hx187_4)).trans hx187_4
        replace hx187_5 := (HB.out.cell (World.block_lt_of_cell? w _ hx187_5)).trans hx187_5
        replace hx187_6 := (HB.out.cell (World.block_lt_of_cell? w _ hx187_6)).trans hx187_6
        replace p187 := eq_true p187
        replace q187 := eq_true q187
        refine startS (n := 23) (S := fun w' => w'.cell? ⟨gb181, 0, none⟩ = some (.int .i64 a1_0) ∧ w'.cell? ⟨gb181, 1, none⟩ = some (.int .i64 a1_1) ∧ w'.cell? (ad185.add ((x6_1).toNat * 7)) = some (.int .i64 ((rd_T111 l0 x6_1).f0.f0)) ∧ w'.cell? ⟨(ad185.add ((x6_1).toNat * 7)).block, (ad185.add ((x6_1).toNat * 7)).off + 1, none⟩ = some (.int .i64 ((rd_T111 l0 x6_1).f0.f1)) ∧ w'.cell? ⟨(ad185.add ((x6_1).toNat * 7)).block, (ad185.add ((x6_1).toNat * 7)).off + 2, none⟩ = some (.string ((rd_T111 l0 x6_1).f1)) ∧ w'.cell? ⟨(ad185.add ((x6_1).toNat * 7)).block, (ad185.add ((x6_1).toNat * 7)).off + 3, none⟩ = some (.int .i64 ((rd_T111 l0 x6_1).f2.f0)) ∧ w'.cell? ⟨(ad185.add ((x6_1).toNat * 7)).block, (ad185.add ((x6_1).toNat * 7)).off + 4, none⟩ = some (.int .i64 ((rd_T111 l0 x6_1).f2.f1)) ∧ w'.cell? ⟨(ad185.add ((x6_1).toNat * 7)).block, (ad185.add ((x6_1).toNat * 7)).off + 5, none⟩ = some (.string ((rd_T111 l0 x6_1).f3)) ∧ w'.cell? ⟨(ad185.add ((x6_1).toNat * 7)).block, (ad185.add ((x6_1).toNat * 7)).off + 6, none⟩ = some (.bool true) ∧ w'.cell? (ad185.add ((x6_1).toNat * 7)) = some (.int .i64 ((rd_T111 l0 x6_1).f0.f0)) ∧ w'.cell? ⟨(ad185.add ((x6_1).toNat * 7)).block, (ad185.add ((x6_1).toNat * 7)).off + 1, none⟩ = some (.int .i64 ((rd_T111 l0 x6_1).f0.f1)) ∧ w'.cell? ⟨(ad185.add ((x6_1).toNat * 7)).block, (ad185.add ((x6_1).toNat * 7)).off + 2, none⟩ = some (.string ((rd_T111 l0 x6_1).f1)) ∧ w'.cell? ⟨(ad185.add ((x6_1).toNat * 7)).block, (ad185.add ((x6_1).toNat * 7)).off + 3, none⟩ = some (.int .i64 ((rd_T111 l0 x6_1).f2.f0)) ∧ w'.cell? ⟨(ad185.add ((x6_1).toNat * 7)).block, (ad185.add ((x6_1).toNat * 7)).off + 4, none⟩ = some (.int .i64 ((rd_T111 l0 x6_1).f2.f1)) ∧ w'.cell? ⟨(ad185.add ((x6_1).toNat * 7)).block, (ad185.add ((x6_1).toNat * 7)).off + 5, none⟩ = some (.string ((rd_T111 l0 x6_1).f3)) ∧ w'.cell? ⟨(ad185.add ((x6_1).toNat * 7)).block, (ad185.add ((x6_1).toNat * 7)).off + 6, none⟩ = some (.bool true) ∧ w'.cell? (ad185.add ((x6_1).toNat * 7)) = some (.int .i64 ((rd_T111 l0 x6_1).f0.f0)) ∧ w'.cell? ⟨(ad185.add ((x6_1).toNat * 7)).block, (ad185.add ((x6_1).toNat * 7)).off + 1, none⟩ = some (.int .i64 ((rd_T111 l0 x6_1).f0.f1)) ∧ w'.cell? ⟨(ad185.add ((x6_1).toNat * 7)).block, (ad185.add ((x6_1).toNat * 7)).off + 2, none⟩ = some (.string ((rd_T111 l0 x6_1).f1)) ∧ w'.cell? ⟨(ad185.add ((x6_1).toNat * 7)).block, (ad185.add ((x6_1).toNat * 7)).off + 3, none⟩ = some (.int .i64 ((rd_T111 l0 x6_1).f2.f0)) ∧ w'.cell? ⟨(ad185.add ((x6_1).toNat * 7)).block, (ad185.add ((x6_1).toNat * 7)).off + 4, none⟩ = some (.int .i64 ((rd_T111 l0 x6_1).f2.f1)) ∧ w'.cell? ⟨(ad185.add ((x6_1).toNat * 7)).block, (ad185.add ((x6_1).toNat * 7)).off + 5, none⟩ = some (.string ((rd_T111 l0 x6_1).f3)) ∧ w'.cell? ⟨(ad185.add ((x6_1).toNat * 7)).block, (ad185.add ((x6_1).toNat * 7)).off + 6, none⟩ = some (.bool true)) (ds := []) ⟨(blk_cell BK181.out 0).trans rfl, (blk_cell BK181.out 1).trans rfl, cS HB hw185_0, cS HB hw185_1, cS HB hw185_2, cS HB hw185_3, cS HB hw185_4, cS HB hw185_5, cS HB hw185_6, cS HB hw186_0, cS HB hw186_1, cS HB hw186_2, cS HB hw186_3, cS HB hw186_4, cS HB hw186_5, cS HB hw186_6, cS HB hw187_0, cS HB hw187_1, cS HB hw187_2, cS HB hw187_3, cS HB hw187_4, cS HB hw187_5, cS HB hw187_6⟩ (fun hHeld => ?_); refine with_tabW topiaryref13_Attrs.tab5 topiaryref13_Attrs.bits5 (fun HT_ HW_ => ?_)
        generalize wr.drew = w13 at HO_5 BK181 HB hx185_0 hx185_1 hx185_2 hx185_3 hx185_4 hx185_5 hx185_6 hx186_0 hx186_1 hx186_2 hx186_3 hx186_4 hx186_5 hx186_6 hx187_0 hx187_1 hx187_2 hx187_3 hx187_4 hx187_5 hx187_6 hHeld ⊢
        refine pureT (i := 0) (N := some 14) HT_ ?_
        refine pureT (i := 1) (N := some 15) HT_ ?_
        refine pureT (i := 2) (N := some 16) HT_ ?_
        refine pureT (i := 3) (N := some 17) HT_ ?_
        refine takeS (i := 4) (N := some 18) (v := ?_) HT_ HW_ hHeld ?_ ?_
        rotate_left
        ·rintro w' ⟨s0, s1, s2, s3, s4, s5, s6, s7, s8, s9, s10, s11, s12, s13, s14, s15, s16, s17, s18, s19, s20, s21, s22⟩
         go_simp
         with_reducible rfl
        refine normS (N := some 18) ?_
        refine takeS (i := 5) (N := some 19) (v := ?_) HT_ HW_ hHeld ?_ ?_
        rotate_left
        ·rintro w' ⟨s0, s1, s2, s3, s4, s5, s6, s7, s8, s9, s10, s11, s12, s13, s14, s15, s16, s17, s18, s19, s20, s21, s22⟩
         go_simp
         with_reducible rfl
        refine normS (N := some 19) ?_
        refine pureT (i := 6) (N := some 20) HT_ ?_
        refine pureT (i := 7) (N := some 21) HT_ ?_
        refine pureT (i := 8) (N := some 22) HT_ ?_
        refine pureT (i := 9) (N := some 23) HT_ ?_
        refine pureT (i := 10) (N := some 24) HT_ ?_
        refine pureT (i := 11) (N := some 25) HT_ ?_
        refine takeS (i := 12) (N := some 26) (v := ?_) HT_ HW_ hHeld ?_ ?_
        rotate_left
        ·rintro w' ⟨s0, s1, s2, s3, s4, s5, s6, s7, s8, s9, s10, s11, s12, s13, s14, s15, s16, s17, s18, s19, s20, s21, s22⟩
         go_simp
         with_reducible rfl
        refine normS (N := some 26) ?_
        refine pureT (i := 13) (N := some 27) HT_ ?_
        refine pureT (i := 14) (N := some 28) HT_ ?_
        refine pureT (i := 15) (N := some 29) HT_ ?_
        refine pureT (i := 16) (N := some 30) HT_ ?_
        refine pureT (i := 17) (N := some 31) HT_ ?_
        refine pureT (i := 18) (N := some 32) HT_ ?_
        refine pureT (i := 19) (N := some 33) HT_ ?_
        refine takeS (i := 20) (N := some 34) (v := ?_) HT_ HW_ hHeld ?_ ?_
        rotate_left
        ·rintro w' ⟨s0, s1, s2, s3, s4, s5, s6, s7, s8, s9, s10, s11, s12, s13, s14, s15, s16, s17, s18, s19, s20, s21, s22⟩
         go_simp
         with_reducible rfl
        refine normS (N := some 34) ?_
        refine pureT (i := 21) (N := some 35) HT_ ?_
        refine pureT (i := 22) (N := some 36) HT_ ?_
        refine done_ (done_of HT_.out (by kernel_rfl)) ?_
        try go_wp2
        go_roundg k1
        case measure => have := HK1.out; omega
        case rel => exact ⟨(x5_1), (wrap64 (x6_1 + 1)), (by first | rfl | (simp; done) | (simp [*]; done)), H', ⟨by have := HK1.out; omega⟩, ⟨by (with_reducible repeat (first | apply Kd.R_alloc | apply Kd.R_drewN | apply Kd.R_drew)); exact HO_5.out⟩, ⟨by (with_reducible repeat (first | refine blk_drewN ?_ _ | refine blk_drew ?_ | refine blk_alloc ?_ _)); exact BK181.out⟩, ⟨bS1 HB GE181⟩⟩
       ·replace c12 := Bool.eq_false_iff.mpr c12
        subst c12
        have H1 : (if x5_1.length < 4398046511104 then (topiaryref13_Attrs.l0 k1 l0 (x5_1 ++ [(⟨(rd_T111 l0 x6_1).f1, (rd_T111 l0 x6_1).f3⟩ : S99)]) (wrap64 (x6_1 + 1)) a1_0 a1_1) else (none)) = some r := by rw [if_neg (show ¬ (false = true) by decide)] at H; exact H
        clear H
        have H := H1
        clear H1
        by_cases c14 : x5_1.length < 4398046511104
        ·rw [if_pos c14] at H
         have LMc14 := Aside0.mk c14
         clear c14
         obtain ⟨y190, hy190⟩ : ∃ y_ : List (S99), y_ = (x5_1 ++ [(⟨(rd_T111 l0 x6_1).f1, (rd_T111 l0 x6_1).f3⟩ : S99)]) := ⟨_, rfl⟩
         replace H : (topiaryref13_Attrs.l0 k1 l0 y190 (wrap64 (x6_1 + 1)) a1_0 a1_1) = some r := by first | (rw [hy190]; with_reducible exact H) | (have H2_ := (Option.bind_some _ _).symm.trans H; rw [hy190]; with_reducible exact H2_) | (have H2_ := (Option.bind_some _ _).symm.trans H; with_reducible exact H2_) | with_reducible exact H | (rw [hy190]; exact H) | exact H
         have Ny190 := Aside0.mk hy190
         clear hy190
         have H' := Aside0.mk H
         clear H
         try go_wp2
         replace HO_5 := Aside0.mk (Kd.R_drew HO_5.out)
         replace BK181 := Aside0.mk (blk_drew BK181.out)
         replace HB := Aside0.mk (below_drew1 HB.out)
         have p185 : 0 ≤ (x6_1 : Int) := of_decide_eq_true asmS
         have q185 : x6_1 < (l0.length : Int) := of_decide_eq_true asmS
         obtain ⟨ad185, e185, hx185_0, hx185_1, hx185_2, hx185_3, hx185_4, hx185_5, hx185_6⟩ := at_T111 HR0.out x6_1 p185 q185
         have hw185_6 := hx185_6
         have hw185_5 := hx185_5
         have hw185_4 := hx185_4
         have hw185_3 := hx185_3
         have hw185_2 := hx185_2
         have hw185_1 := hx185_1
         have hw185_0 := hx185_0
         (try rw [← Nbq11.out] at hx185_6)
         (try rw [← Nbq11.out] at hw185_6)
         cases e185
         replace hx185_0 := (HB.out.cell (World.block_lt_of_cell? w _ hx185_0)).trans hx185_0
         replace hx185_1 := (HB.out.cell (World.block_lt_of_cell? w _ hx185_1)).trans hx185_1
         replace hx185_2 := (HB.out.cell (World.block_lt_of_cell? w _ hx185_2)).trans hx185_2
         replace hx185_3 := (HB.out.cell (World.block_lt_of_cell? w _ hx185_3)).trans hx185_3
         replace hx185_4 := (HB.out.cell (World.block_lt_of_cell? w _ hx185_4)).trans hx185_4
         replace hx185_5 := (HB.out.cell (World.block_lt_of_cell? w _ hx185_5)).trans hx185_5
         replace hx185_6 := (HB.out.cell (World.block_lt_of_cell? w _ hx185_6)).trans hx185_6
         replace p185 := eq_true p185
         replace q185 := eq_true q185
         have p186 : 0 ≤ (x6_1 : Int) := of_decide_eq_true asmS
         have q186 : x6_1 < (l0.length : Int) := of_decide_eq_true asmS
         obtain ⟨ad186, e186, hx186_0, hx186_1, hx186_2, hx186_3, hx186_4, hx186_5, hx186_6⟩ := at_T111 HR0.out x6_1 p186 q186
         have hw186_6 := hx186_6
         have hw186_5 := hx186_5
         have hw186_4 := hx186_4
         have hw186_3 := hx186_3
         have hw186_2 := hx186_2
         have hw186_1 := hx186_1
         have hw186_0 := hx186_0
         (try rw [← Nbq11.out] at hx186_6)
         (try rw [← Nbq11.out] at hw186_6)
         obtain rfl : ad185 = ad186 := (by injection e186)
         replace hx186_0 := (HB.out.cell (World.block_lt_of_cell? w _ hx186_0)).trans hx186_0
         replace hx186_1 := (HB.out.cell (World.block_lt_of_cell? w _ hx186_1)).trans hx186_1
         replace hx186_2 := (HB.out.cell (World.block_lt_of_cell? w _ hx186_2)).trans hx186_2
         replace hx186_3 := (HB.out.cell (World.block_lt_of_cell? w _ hx186_3)).trans hx186_3
         replace hx186_4 := (HB.out.cell (World.block_lt_of_cell? w _ hx186_4)).trans hx186_4
         replace hx186_5 := (HB.out.cell (World.block_lt_of_cell? w _ hx186_5)).trans hx186_5
         replace hx186_6 := (HB.out.cell (World.block_lt_of_cell? w _ hx186_6)).trans hx186_6
         replace p186 := eq_true p186
         replace q186 := eq_true q186
         have p187 : 0 ≤ (x6_1 : Int) := of_decide_eq_true asmS
         have q187 : x6_1 < (l0.length : Int) := of_decide_eq_true asmS
         obtain ⟨ad187, e187, hx187_0, hx187_1, hx187_2, hx187_3, hx187_4, hx187_5, hx187_6⟩ := at_T111 HR0.out x6_1 p187 q187
         have hw187_6 := hx187_6
         have hw187_5 := hx187_5
         have hw187_4 := hx187_4
         have hw187_3 := hx187_3
         have hw187_2 := hx187_2
         have hw187_1 := hx187_1
         have hw187_0 := hx187_0
         (try rw [← Nbq11.out] at hx187_6)
         (try rw [← Nbq11.out] at hw187_6)
         obtain rfl : ad185 = ad187 := (by injection e187)
         replace hx187_0 := (HB.out.cell (World.block_lt_of_cell? w _ hx187_0)).trans hx187_0
         replace hx187_1 := (HB.out.cell (World.block_lt_of_cell? w _ hx187_1)).trans hx187_1
         replace hx187_2 := (HB.out.cell (World.block_lt_of_cell? w _ hx187_2)).trans hx187_2
         replace hx187_3 := (HB.out.cell (World.block_lt_of_cell? w _ hx187_3)).trans hx187_3
         replace hx187_4 := (HB.out.cell (World.block_lt_of_cell? w _ hx187_4)).trans hx187_4
         replace hx187_5 := (HB.out.cell (World.block_lt_of_cell? w _ hx187_5)).trans hx187_5
         replace hx187_6 := (HB.out.cell (World.block_lt_of_cell? w _ hx187_6)).trans hx187_6
         replace p187 := eq_true p187
         replace q187 := eq_true q187
         refine startS (n := 23) (S := fun w' => w'.cell? ⟨gb181, 0, none⟩ = some (.int .i64 a1_0) ∧ w'.cell? ⟨gb181, 1, none⟩ = some (.int .i64 a1_1) ∧ w'.cell? (ad185.add ((x6_1).toNat * 7)) = some (.int .i64 ((rd_T111 l0 x6_1).f0.f0)) ∧ w'.cell? ⟨(ad185.add ((x6_1).toNat * 7)).block, (ad185.add ((x6_1).toNat * 7)).off + 1, none⟩ = some (.int .i64 ((rd_T111 l0 x6_1).f0.f1)) ∧ w'.cell? ⟨(ad185.add ((x6_1).toNat * 7)).block, (ad185.add ((x6_1).toNat * 7)).off + 2, none⟩ = some (.string ((rd_T111 l0 x6_1).f1)) ∧ w'.cell? ⟨(ad185.add ((x6_1).toNat * 7)).block, (ad185.add ((x6_1).toNat * 7)).off + 3, none⟩ = some (.int .i64 ((rd_T111 l0 x6_1).f2.f0)) ∧ w'.cell? ⟨(ad185.add ((x6_1).toNat * 7)).block, (ad185.add ((x6_1).toNat * 7)).off + 4, none⟩ = some (.int .i64 ((rd_T111 l0 x6_1).f2.f1)) ∧ w'.cell? ⟨(ad185.add ((x6_1).toNat * 7)).block, (ad185.add ((x6_1).toNat * 7)).off + 5, none⟩ = some (.string ((rd_T111 l0 x6_1).f3)) ∧ w'.cell? ⟨(ad185.add ((x6_1).toNat * 7)).block, (ad185.add ((x6_1).toNat * 7)).off + 6, none⟩ = some (.bool false) ∧ w'.cell? (ad185.add ((x6_1).toNat * 7)) = some (.int .i64 ((rd_T111 l0 x6_1).f0.f0)) ∧ w'.cell? ⟨(ad185.add ((x6_1).toNat * 7)).block, (ad185.add ((x6_1).toNat * 7)).off + 1, none⟩ = some (.int .i64 ((rd_T111 l0 x6_1).f0.f1)) ∧ w'.cell? ⟨(ad185.add ((x6_1).toNat * 7)).block, (ad185.add ((x6_1).toNat * 7)).off + 2, none⟩ = some (.string ((rd_T111 l0 x6_1).f1)) ∧ w'.cell? ⟨(ad185.add ((x6_1).toNat * 7)).block, (ad185.add ((x6_1).toNat * 7)).off + 3, none⟩ = some (.int .i64 ((rd_T111 l0 x6_1).f2.f0)) ∧ w'.cell? ⟨(ad185.add ((x6_1).toNat * 7)).block, (ad185.add ((x6_1).toNat * 7)).off + 4, none⟩ = some (.int .i64 ((rd_T111 l0 x6_1).f2.f1)) ∧ w'.cell? ⟨(ad185.add ((x6_1).toNat * 7)).block, (ad185.add ((x6_1).toNat * 7)).off + 5, none⟩ = some (.string ((rd_T111 l0 x6_1).f3)) ∧ w'.cell? ⟨(ad185.add ((x6_1).toNat * 7)).block, (ad185.add ((x6_1).toNat * 7)).off + 6, none⟩ = some (.bool false) ∧ w'.cell? (ad185.add ((x6_1).toNat * 7)) = some (.int .i64 ((rd_T111 l0 x6_1).f0.f0)) ∧ w'.cell? ⟨(ad185.add ((x6_1).toNat * 7)).block, (ad185.add ((x6_1).toNat * 7)).off + 1, none⟩ = some (.int .i64 ((rd_T111 l0 x6_1).f0.f1)) ∧ w'.cell? ⟨(ad185.add ((x6_1).toNat * 7)).block, (ad185.add ((x6_1).toNat * 7)).off + 2, none⟩ = some (.string ((rd_T111 l0 x6_1).f1)) ∧ w'.cell? ⟨(ad185.add ((x6_1).toNat * 7)).block, (ad185.add ((x6_1).toNat * 7)).off + 3, none⟩ = some (.int .i64 ((rd_T111 l0 x6_1).f2.f0)) ∧ w'.cell? ⟨(ad185.add ((x6_1).toNat * 7)).block, (ad185.add ((x6_1).toNat * 7)).off + 4, none⟩ = some (.int .i64 ((rd_T111 l0 x6_1).f2.f1)) ∧ w'.cell? ⟨(ad185.add ((x6_1).toNat * 7)).block, (ad185.add ((x6_1).toNat * 7)).off + 5, none⟩ = some (.string ((rd_T111 l0 x6_1).f3)) ∧ w'.cell? ⟨(ad185.add ((x6_1).toNat * 7)).block, (ad185.add ((x6_1).toNat * 7)).off + 6, none⟩ = some (.bool false)) (ds := []) ⟨(blk_cell BK181.out 0).trans rfl, (blk_cell BK181.out 1).trans rfl, cS HB hw185_0, cS HB hw185_1, cS HB hw185_2, cS HB hw185_3, cS HB hw185_4, cS HB hw185_5, cS HB hw185_6, cS HB hw186_0, cS HB hw186_1, cS HB hw186_2, cS HB hw186_3, cS HB hw186_4, cS HB hw186_5, cS HB hw186_6, cS HB hw187_0, cS HB hw187_1, cS HB hw187_2, cS HB hw187_3, cS HB hw187_4, cS HB hw187_5, cS HB hw187_6⟩ (fun hHeld => ?_); refine with_tabW topiaryref13_Attrs.tab5 topiaryref13_Attrs.bits5 (fun HT_ HW_ => ?_)
         generalize wr.drew = w15 at HO_5 BK181 HB hx185_0 hx185_1 hx185_2 hx185_3 hx185_4 hx185_5 hx185_6 hx186_0 hx186_1 hx186_2 hx186_3 hx186_4 hx186_5 hx186_6 hx187_0 hx187_1 hx187_2 hx187_3 hx187_4 hx187_5 hx187_6 hHeld ⊢
         refine pureT (i := 0) (N := some 14) HT_ ?_
         refine pureT (i := 1) (N := some 15) HT_ ?_
         refine pureT (i := 2) (N := some 16) HT_ ?_
         refine pureT (i := 3) (N := some 17) HT_ ?_
         refine takeS (i := 4) (N := some 18) (v := ?_) HT_ HW_ hHeld ?_ ?_
         rotate_left
         ·rintro w' ⟨s0, s1, s2, s3, s4, s5, s6, s7, s8, s9, s10, s11, s12, s13, s14, s15, s16, s17, s18, s19, s20, s21, s22⟩
          go_simp
          with_reducible rfl
         refine normS (N := some 18) ?_
         refine takeS (i := 5) (N := some 19) (v := ?_) HT_ HW_ hHeld ?_ ?_
         rotate_left
         ·rintro w' ⟨s0, s1, s2, s3, s4, s5, s6, s7, s8, s9, s10, s11, s12, s13, s14, s15, s16, s17, s18, s19, s20, s21, s22⟩
          go_simp
          with_reducible rfl
         refine normS (N := some 19) ?_
         refine pureT (i := 6) (N := some 20) HT_ ?_
         refine pureT (i := 7) (N := some 21) HT_ ?_
         refine pureT (i := 8) (N := some 22) HT_ ?_
         refine pureT (i := 9) (N := some 23) HT_ ?_
         refine pureT (i := 10) (N := some 24) HT_ ?_
         refine pureT (i := 11) (N := some 25) HT_ ?_
         refine takeS (i := 12) (N := some 26) (v := ?_) HT_ HW_ hHeld ?_ ?_
         rotate_left
         ·rintro w' ⟨s0, s1, s2, s3, s4, s5, s6, s7, s8, s9, s10, s11, s12, s13, s14, s15, s16, s17, s18, s19, s20, s21, s22⟩
          go_simp
          with_reducible rfl
         refine normS (N := some 26) ?_
         refine pureT (i := 13) (N := some 27) HT_ ?_
         refine pureT (i := 14) (N := some 28) HT_ ?_
         refine pureT (i := 15) (N := some 29) HT_ ?_
         refine pureT (i := 16) (N := some 30) HT_ ?_
         refine pureT (i := 17) (N := some 31) HT_ ?_
         refine pureT (i := 18) (N := some 32) HT_ ?_
         refine pureT (i := 19) (N := some 33) HT_ ?_
         refine takeS (i := 20) (N := some 34) (v := ?_) HT_ HW_ hHeld ?_ ?_
         rotate_left
         ·rintro w' ⟨s0, s1, s2, s3, s4, s5, s6, s7, s8, s9, s10, s11, s12, s13, s14, s15, s16, s17, s18, s19, s20, s21, s22⟩
          go_simp
          with_reducible rfl
         refine normS (N := some 34) ?_
         refine pureT (i := 21) (N := some 35) HT_ ?_
         refine pureT (i := 22) (N := some 36) HT_ ?_
         refine done_ (done_of HT_.out (by kernel_rfl)) ?_
         try go_wp2
         replace HO_5 := Aside0.mk (Kd.R_drew HO_5.out)
         replace BK181 := Aside0.mk (blk_drew BK181.out)
         replace HB := Aside0.mk (below_drew1 HB.out)
         have p188 : 0 ≤ (x6_1 : Int) := of_decide_eq_true asmS
         have q188 : x6_1 < (l0.length : Int) := of_decide_eq_true asmS
         obtain ⟨ad188, e188, hx188_0, hx188_1, hx188_2, hx188_3, hx188_4, hx188_5, hx188_6⟩ := at_T111 HR0.out x6_1 p188 q188
         have hw188_6 := hx188_6
         have hw188_5 := hx188_5
         have hw188_4 := hx188_4
         have hw188_3 := hx188_3
         have hw188_2 := hx188_2
         have hw188_1 := hx188_1
         have hw188_0 := hx188_0
         (try rw [← Nbq11.out] at hx188_6)
         (try rw [← Nbq11.out] at hw188_6)
         obtain rfl : ad185 = ad188 := (by injection e188)
         replace hx188_0 := (HB.out.cell (World.block_lt_of_cell? w _ hx188_0)).trans hx188_0
         replace hx188_1 := (HB.out.cell (World.block_lt_of_cell? w _ hx188_1)).trans hx188_1
         replace hx188_2 := (HB.out.cell (World.block_lt_of_cell? w _ hx188_2)).trans hx188_2
         replace hx188_3 := (HB.out.cell (World.block_lt_of_cell? w _ hx188_3)).trans hx188_3
         replace hx188_4 := (HB.out.cell (World.block_lt_of_cell? w _ hx188_4)).trans hx188_4
         replace hx188_5 := (HB.out.cell (World.block_lt_of_cell? w _ hx188_5)).trans hx188_5
         replace hx188_6 := (HB.out.cell (World.block_lt_of_cell? w _ hx188_6)).trans hx188_6
         replace p188 := eq_true p188
         replace q188 := eq_true q188
         have p189 : 0 ≤ (x6_1 : Int) := of_decide_eq_true asmS
         have q189 : x6_1 < (l0.length : Int) := of_decide_eq_true asmS
         obtain ⟨ad189, e189, hx189_0, hx189_1, hx189_2, hx189_3, hx189_4, hx189_5, hx189_6⟩ := at_T111 HR0.out x6_1 p189 q189
         have hw189_6 := hx189_6
         have hw189_5 := hx189_5
         have hw189_4 := hx189_4
         have hw189_3 := hx189_3
         have hw189_2 := hx189_2
         have hw189_1 := hx189_1
         have hw189_0 := hx189_0
         (try rw [← Nbq11.out] at hx189_6)
         (try rw [← Nbq11.out] at hw189_6)
         obtain rfl : ad185 = ad189 := (by injection e189)
         replace hx189_0 := (HB.out.cell (World.block_lt_of_cell? w _ hx189_0)).trans hx189_0
         replace hx189_1 := (HB.out.cell (World.block_lt_of_cell? w _ hx189_1)).trans hx189_1
         replace hx189_2 := (HB.out.cell (World.block_lt_of_cell? w _ hx189_2)).trans hx189_2
         replace hx189_3 := (HB.out.cell (World.block_lt_of_cell? w _ hx189_3)).trans hx189_3
         replace hx189_4 := (HB.out.cell (World.block_lt_of_cell? w _ hx189_4)).trans hx189_4
         replace hx189_5 := (HB.out.cell (World.block_lt_of_cell? w _ hx189_5)).trans hx189_5
         replace hx189_6 := (HB.out.cell (World.block_lt_of_cell? w _ hx189_6)).trans hx189_6
         replace p189 := eq_true p189
         replace q189 := eq_true q189
         refine startS (n := 15) (S := fun w' => w'.cell? (ad185.add ((x6_1).toNat * 7)) = some (.int .i64 ((rd_T111 l0 x6_1).f0.f0)) ∧ w'.cell? ⟨(ad185.add ((x6_1).toNat * 7)).block, (ad185.add ((x6_1).toNat * 7)).off + 1, none⟩ = some (.int .i64 ((rd_T111 l0 x6_1).f0.f1)) ∧ w'.cell? ⟨(ad185.add ((x6_1).toNat * 7)).block, (ad185.add ((x6_1).toNat * 7)).off + 2, none⟩ = some (.string ((rd_T111 l0 x6_1).f1)) ∧ w'.cell? ⟨(ad185.add ((x6_1).toNat * 7)).block, (ad185.add ((x6_1).toNat * 7)).off + 3, none⟩ = some (.int .i64 ((rd_T111 l0 x6_1).f2.f0)) ∧ w'.cell? ⟨(ad185.add ((x6_1).toNat * 7)).block, (ad185.add ((x6_1).toNat * 7)).off + 4, none⟩ = some (.int .i64 ((rd_T111 l0 x6_1).f2.f1)) ∧ w'.cell? ⟨(ad185.add ((x6_1).toNat * 7)).block, (ad185.add ((x6_1).toNat * 7)).off + 5, none⟩ = some (.string ((rd_T111 l0 x6_1).f3)) ∧ w'.cell? ⟨(ad185.add ((x6_1).toNat * 7)).block, (ad185.add ((x6_1).toNat * 7)).off + 6, none⟩ = some (.bool (false)) ∧ w'.cell? (ad185.add ((x6_1).toNat * 7)) = some (.int .i64 ((rd_T111 l0 x6_1).f0.f0)) ∧ w'.cell? ⟨(ad185.add ((x6_1).toNat * 7)).block, (ad185.add ((x6_1).toNat * 7)).off + 1, none⟩ = some (.int .i64 ((rd_T111 l0 x6_1).f0.f1)) ∧ w'.cell? ⟨(ad185.add ((x6_1).toNat * 7)).block, (ad185.add ((x6_1).toNat * 7)).off + 2, none⟩ = some (.string ((rd_T111 l0 x6_1).f1)) ∧ w'.cell? ⟨(ad185.add ((x6_1).toNat * 7)).block, (ad185.add ((x6_1).toNat * 7)).off + 3, none⟩ = some (.int .i64 ((rd_T111 l0 x6_1).f2.f0)) ∧ w'.cell? ⟨(ad185.add ((x6_1).toNat * 7)).block, (ad185.add ((x6_1).toNat * 7)).off + 4, none⟩ = some (.int .i64 ((rd_T111 l0 x6_1).f2.f1)) ∧ w'.cell? ⟨(ad185.add ((x6_1).toNat * 7)).block, (ad185.add ((x6_1).toNat * 7)).off + 5, none⟩ = some (.string ((rd_T111 l0 x6_1).f3)) ∧ w'.cell? ⟨(ad185.add ((x6_1).toNat * 7)).block, (ad185.add ((x6_1).toNat * 7)).off + 6, none⟩ = some (.bool (false))) (ds := []) ⟨cS HB hw188_0, cS HB hw188_1, cS HB hw188_2, cS HB hw188_3, cS HB hw188_4, cS HB hw188_5, cS HB hw188_6, cS HB hw189_0, cS HB hw189_1, cS HB hw189_2, cS HB hw189_3, cS HB hw189_4, cS HB hw189_5, cS HB hw189_6⟩ (fun hHeld => ?_); refine with_tabW topiaryref13_Attrs.tab6 topiaryref13_Attrs.bits6 (fun HT_ HW_ => ?_)
         generalize w15.drew = w16 at HO_5 BK181 HB hx188_0 hx188_1 hx188_2 hx188_3 hx188_4 hx188_5 hx188_6 hx189_0 hx189_1 hx189_2 hx189_3 hx189_4 hx189_5 hx189_6 hHeld ⊢
         refine pureT (i := 0) (N := some 37) HT_ ?_
         refine pureT (i := 1) (N := some 38) HT_ ?_
         refine pureT (i := 2) (N := some 39) HT_ ?_
         refine pureT (i := 3) (N := some 40) HT_ ?_
         refine pureT (i := 4) (N := some 41) HT_ ?_
         refine pureT (i := 6) (N := some 43) HT_ ?_
         refine pureT (i := 7) (N := some 44) HT_ ?_
         refine pureT (i := 8) (N := some 45) HT_ ?_
         refine pureT (i := 9) (N := some 46) HT_ ?_
         refine takeS (i := 5) (N := some 42) (v := ?_) HT_ HW_ hHeld ?_ ?_
         rotate_left
         ·rintro w' ⟨s0, s1, s2, s3, s4, s5, s6, s7, s8, s9, s10, s11, s12, s13⟩
          go_simp
          with_reducible rfl
         refine normS (N := some 42) ?_
         refine takeS (i := 10) (N := some 47) (v := ?_) HT_ HW_ hHeld ?_ ?_
         rotate_left
         ·rintro w' ⟨s0, s1, s2, s3, s4, s5, s6, s7, s8, s9, s10, s11, s12, s13⟩
          go_simp
          with_reducible rfl
         refine normS (N := some 47) ?_
         refine pureT (i := 11) (N := some 48) HT_ ?_
         refine oneS (i := 12) (N := some 49) HT_ (fun K hK => ?_)
         refine value_ (w1 := ?_) (v := ?_) (by rfl) rfl ?_ ?_
         rotate_left 2
         ·go_simp
          constructor
          ·rfl
          ·rfl
         refine hK.out _ _ ⟨(World.cell?_alloc_lt _ _ _ (World.block_lt_of_cell? _ _ (((HB.out.cell (World.block_lt_of_cell? w _ hw188_0)).trans hw188_0)))).trans (((HB.out.cell (World.block_lt_of_cell? w _ hw188_0)).trans hw188_0)), (World.cell?_alloc_lt _ _ _ (World.block_lt_of_cell? _ _ (((HB.out.cell (World.block_lt_of_cell? w _ hw188_1)).trans hw188_1)))).trans (((HB.out.cell (World.block_lt_of_cell? w _ hw188_1)).trans hw188_1)), (World.cell?_alloc_lt _ _ _ (World.block_lt_of_cell? _ _ (((HB.out.cell (World.block_lt_of_cell? w _ hw188_2)).trans hw188_2)))).trans (((HB.out.cell (World.block_lt_of_cell? w _ hw188_2)).trans hw188_2)), (World.cell?_alloc_lt _ _ _ (World.block_lt_of_cell? _ _ (((HB.out.cell (World.block_lt_of_cell? w _ hw188_3)).trans hw188_3)))).trans (((HB.out.cell (World.block_lt_of_cell? w _ hw188_3)).trans hw188_3)), (World.cell?_alloc_lt _ _ _ (World.block_lt_of_cell? _ _ (((HB.out.cell (World.block_lt_of_cell? w _ hw188_4)).trans hw188_4)))).trans (((HB.out.cell (World.block_lt_of_cell? w _ hw188_4)).trans hw188_4)), (World.cell?_alloc_lt _ _ _ (World.block_lt_of_cell? _ _ (((HB.out.cell (World.block_lt_of_cell? w _ hw188_5)).trans hw188_5)))).trans (((HB.out.cell (World.block_lt_of_cell? w _ hw188_5)).trans hw188_5)), (World.cell?_alloc_lt _ _ _ (World.block_lt_of_cell? _ _ (((HB.out.cell (World.block_lt_of_cell? w _ hw188_6)).trans hw188_6)))).trans (((HB.out.cell (World.block_lt_of_cell? w _ hw188_6)).trans hw188_6)), (World.cell?_alloc_lt _ _ _ (World.block_lt_of_cell? _ _ (((HB.out.cell (World.block_lt_of_cell? w _ hw189_0)).trans hw189_0)))).trans (((HB.out.cell (World.block_lt_of_cell? w _ hw189_0)).trans hw189_0)), (World.cell?_alloc_lt _ _ _ (World.block_lt_of_cell? _ _ (((HB.out.cell (World.block_lt_of_cell? w _ hw189_1)).trans hw189_1)))).trans (((HB.out.cell (World.block_lt_of_cell? w _ hw189_1)).trans hw189_1)), (World.cell?_alloc_lt _ _ _ (World.block_lt_of_cell? _ _ (((HB.out.cell (World.block_lt_of_cell? w _ hw189_2)).trans hw189_2)))).trans (((HB.out.cell (World.block_lt_of_cell? w _ hw189_2)).trans hw189_2)), (World.cell?_alloc_lt _ _ _ (World.block_lt_of_cell? _ _ (((HB.out.cell (World.block_lt_of_cell? w _ hw189_3)).trans hw189_3)))).trans (((HB.out.cell (World.block_lt_of_cell? w _ hw189_3)).trans hw189_3)), (World.cell?_alloc_lt _ _ _ (World.block_lt_of_cell? _ _ (((HB.out.cell (World.block_lt_of_cell? w _ hw189_4)).trans hw189_4)))).trans (((HB.out.cell (World.block_lt_of_cell? w _ hw189_4)).trans hw189_4)), (World.cell?_alloc_lt _ _ _ (World.block_lt_of_cell? _ _ (((HB.out.cell (World.block_lt_of_cell? w _ hw189_5)).trans hw189_5)))).trans (((HB.out.cell (World.block_lt_of_cell? w _ hw189_5)).trans hw189_5)), (World.cell?_alloc_lt _ _ _ (World.block_lt_of_cell? _ _ (((HB.out.cell (World.block_lt_of_cell? w _ hw189_6)).trans hw189_6)))).trans (((HB.out.cell (World.block_lt_of_cell? w _ hw189_6)).trans hw189_6))⟩ (fun hHeld => ?_)
         clear hK K
         refine normS (N := (some 49)) ?_
         refine oneS (i := 13) (N := some 50) HT_ (fun K hK => ?_)
         refine Kd.R_append_step k99 (w0 := w) w.heap.size (by rfl) (.tmp 37) (.tmp 49) 24 99 (.agg #[(.string ⟨#[]⟩), (.string ⟨#[]⟩)]) 32 rfl Try.underlying24 info99 rfl (by decide) (by omega) u5 x5_1 (⟨(rd_T111 l0 x6_1).f1, (rd_T111 l0 x6_1).f3⟩ : S99) [.string ((rd_T111 l0 x6_1).f1), .string ((rd_T111 l0 x6_1).f3)] (fun _ => True) (fun _ => False) rfl rfl ?aP (fun _ hk => hk.elim) ?aF ?aO ?aB ?aS ?aL ?_
         (case aP => exact k99_mkM _ _ _ (⟨(rd_T111 l0 x6_1).f1, (rd_T111 l0 x6_1).f3⟩ : S99))
         (case aB => exact (bS1 HB GE181))
         (case aF => exact (fun _ _ => trivial))
         (case aO => exact (RS HO_5))
         (case aS => exact (below_size (bS1 HB GE181)))
         (case aL => have := LMc14.out; omega)
         intro v191 w17 ho hb hg hat
         rw [← Ny190.out] at ho
         replace BK181 := Aside0.mk (blk_grown (blkS BK181) hg (Kd.R_ne HO_5.out BK181.out (by decide)))
         replace HB := Aside0.mk (hb)
         have HO192 := Aside0.mk (ho)
         clear HO_5 ho hb hg hat
         refine hK.out _ _ ⟨cS HB hw188_0, cS HB hw188_1, cS HB hw188_2, cS HB hw188_3, cS HB hw188_4, cS HB hw188_5, cS HB hw188_6, cS HB hw189_0, cS HB hw189_1, cS HB hw189_2, cS HB hw189_3, cS HB hw189_4, cS HB hw189_5, cS HB hw189_6⟩ (fun hHeld => ?_)
         clear hK K
         refine normS (N := (some 50)) ?_
         refine pureT (i := 14) (N := some 5) HT_ ?_
         refine done_ (done_of HT_.out (by kernel_rfl)) ?_
         try go_wp2
         go_roundg k1
         case measure => have := HK1.out; omega
         case rel => exact ⟨(y190), (wrap64 (x6_1 + 1)), (by first | rfl | (simp; done) | (simp [*]; done)), H', ⟨by have := HK1.out; omega⟩, ⟨by (with_reducible repeat (first | apply Kd.R_alloc | apply Kd.R_drewN | apply Kd.R_drew)); exact HO192.out⟩, ⟨by (with_reducible repeat (first | refine blk_drewN ?_ _ | refine blk_drew ?_ | refine blk_alloc ?_ _)); exact BK181.out⟩, ⟨bS1 HB GE181⟩⟩
        ·rw [if_neg c14] at H
         exact absurd H (by simp)
     ·rw [if_neg c8] at H
      have c8b0 : (((rd_T111 l0 x6_1).f0.f0) == a1_0 && (((rd_T111 l0 x6_1).f0.f1) == a1_1)) = false := by simpa using c8
      (try (have c8b1 : decide (((rd_T111 l0 x6_1).f0.f0) = a1_0 && (((rd_T111 l0 x6_1).f0.f1) == a1_1)) = false := by simpa using c8))
      (try (have c8b2 : (((rd_T111 l0 x6_1).f0.f0) == a1_0 && (((rd_T111 l0 x6_1).f0.f1) == a1_1)) = false := by simpa using c8))
      (try (have c8b3 : ¬ (((rd_T111 l0 x6_1).f0.f0) = a1_0 && (((rd_T111 l0 x6_1).f0.f1) == a1_1)) := by simpa using c8))
      clear c8
      have H' := Aside0.mk H
      clear H
      try go_wp2
      replace HO_5 := Aside0.mk (Kd.R_drew HO_5.out)
      replace BK181 := Aside0.mk (blk_drew BK181.out)
      replace HB := Aside0.mk (below_drew1 HB.out)
      have p185 : 0 ≤ (x6_1 : Int) := of_decide_eq_true asmS
      have q185 : x6_1 < (l0.length : Int) := of_decide_eq_true asmS
      obtain ⟨ad185, e185, hx185_0, hx185_1, hx185_2, hx185_3, hx185_4, hx185_5, hx185_6⟩ := at_T111 HR0.out x6_1 p185 q185
      have hw185_6 := hx185_6
      have hw185_5 := hx185_5
      have hw185_4 := hx185_4
      have hw185_3 := hx185_3
      have hw185_2 := hx185_2
      have hw185_1 := hx185_1
      have hw185_0 := hx185_0
      cases e185
      replace hx185_0 := (HB.out.cell (World.block_lt_of_cell? w _ hx185_0)).trans hx185_0
      replace hx185_1 := (HB.out.cell (World.block_lt_of_cell? w _ hx185_1)).trans hx185_1
      replace hx185_2 := (HB.out.cell (World.block_lt_of_cell? w _ hx185_2)).trans hx185_2
      replace hx185_3 := (HB.out.cell (World.block_lt_of_cell? w _ hx185_3)).trans hx185_3
      replace hx185_4 := (HB.out.cell (World.block_lt_of_cell? w _ hx185_4)).trans hx185_4
      replace hx185_5 := (HB.out.cell (World.block_lt_of_cell? w _ hx185_5)).trans hx185_5
      replace hx185_6 := (HB.out.cell (World.block_lt_of_cell? w _ hx185_6)).trans hx185_6
      replace p185 := eq_true p185
      replace q185 := eq_true q185
      refine startS (n := 23) (S := fun w' => w'.cell? ⟨gb181, 0, none⟩ = some (.int .i64 a1_0) ∧ w'.cell? ⟨gb181, 1, none⟩ = some (.int .i64 a1_1) ∧ w'.cell? (ad185.add ((x6_1).toNat * 7)) = some (.int .i64 ((rd_T111 l0 x6_1).f0.f0)) ∧ w'.cell? ⟨(ad185.add ((x6_1).toNat * 7)).block, (ad185.add ((x6_1).toNat * 7)).off + 1, none⟩ = some (.int .i64 ((rd_T111 l0 x6_1).f0.f1)) ∧ w'.cell? ⟨(ad185.add ((x6_1).toNat * 7)).block, (ad185.add ((x6_1).toNat * 7)).off + 2, none⟩ = some (.string ((rd_T111 l0 x6_1).f1)) ∧ w'.cell? ⟨(ad185.add ((x6_1).toNat * 7)).block, (ad185.add ((x6_1).toNat * 7)).off + 3, none⟩ = some (.int .i64 ((rd_T111 l0 x6_1).f2.f0)) ∧ w'.cell? ⟨(ad185.add ((x6_1).toNat * 7)).block, (ad185.add ((x6_1).toNat * 7)).off + 4, none⟩ = some (.int .i64 ((rd_T111 l0 x6_1).f2.f1)) ∧ w'.cell? ⟨(ad185.add ((x6_1).toNat * 7)).block, (ad185.add ((x6_1).toNat * 7)).off + 5, none⟩ = some (.string ((rd_T111 l0 x6_1).f3)) ∧ w'.cell? ⟨(ad185.add ((x6_1).toNat * 7)).block, (ad185.add ((x6_1).toNat * 7)).off + 6, none⟩ = some (.bool ((rd_T111 l0 x6_1).f4))) (ds := []) ⟨(blk_cell BK181.out 0).trans rfl, (blk_cell BK181.out 1).trans rfl, cS HB hw185_0, cS HB hw185_1, cS HB hw185_2, cS HB hw185_3, cS HB hw185_4, cS HB hw185_5, cS HB hw185_6⟩ (fun hHeld => ?_); refine with_tabW topiaryref13_Attrs.tab5 topiaryref13_Attrs.bits5 (fun HT_ HW_ => ?_)
      generalize wr.drew = w18 at HO_5 BK181 HB hx185_0 hx185_1 hx185_2 hx185_3 hx185_4 hx185_5 hx185_6 hHeld ⊢
      refine pureT (i := 0) (N := some 14) HT_ ?_
      refine pureT (i := 1) (N := some 15) HT_ ?_
      refine pureT (i := 2) (N := some 16) HT_ ?_
      refine pureT (i := 3) (N := some 17) HT_ ?_
      refine takeS (i := 4) (N := some 18) (v := ?_) HT_ HW_ hHeld ?_ ?_
      rotate_left
      ·rintro w' ⟨s0, s1, s2, s3, s4, s5, s6, s7, s8⟩
       go_simp
       with_reducible rfl
      refine normS (N := some 18) ?_
      refine takeS (i := 5) (N := some 19) (v := ?_) HT_ HW_ hHeld ?_ ?_
      rotate_left
      ·rintro w' ⟨s0, s1, s2, s3, s4, s5, s6, s7, s8⟩
       go_simp
       with_reducible rfl
      refine normS (N := some 19) ?_
      refine pureT (i := 6) (N := some 20) HT_ ?_
      refine pureT (i := 7) (N := some 21) HT_ ?_
      refine pureV (i := 8) (N := some 22) HT_ ?_
      refine pureV (i := 9) (N := some 23) HT_ ?_
      refine pureV (i := 10) (N := some 24) HT_ ?_
      refine pureV (i := 11) (N := some 25) HT_ ?_
      refine pureV (i := 12) (N := some 26) HT_ ?_
      refine pureV (i := 13) (N := some 27) HT_ ?_
      refine pureT (i := 14) (N := some 28) HT_ ?_
      refine pureT (i := 15) (N := some 29) HT_ ?_
      refine pureV (i := 16) (N := some 30) HT_ ?_
      refine pureV (i := 17) (N := some 31) HT_ ?_
      refine pureV (i := 18) (N := some 32) HT_ ?_
      refine pureV (i := 19) (N := some 33) HT_ ?_
      refine pureV (i := 20) (N := some 34) HT_ ?_
      refine pureV (i := 21) (N := some 35) HT_ ?_
      refine pureT (i := 22) (N := some 36) HT_ ?_
      refine done_ (done_of HT_.out (by kernel_rfl)) ?_
      try go_wp2
      go_roundg k1
      case measure => have := HK1.out; omega
      case rel => exact ⟨(x5_1), (wrap64 (x6_1 + 1)), (by first | rfl | (simp; done) | (simp [*]; done)), H', ⟨by have := HK1.out; omega⟩, ⟨by (with_reducible repeat (first | apply Kd.R_alloc | apply Kd.R_drewN | apply Kd.R_drew)); exact HO_5.out⟩, ⟨by (with_reducible repeat (first | refine blk_drewN ?_ _ | refine blk_drew ?_ | refine blk_alloc ?_ _)); exact BK181.out⟩, ⟨bS1 HB GE181⟩⟩
    ·rw [if_neg c7] at H
     exact absurd H (by simp)
   ·rw [if_neg c6] at H
    have c6b0 : decide (x6_1 < (l0.length : Int)) = false := decide_eq_false c6
    clear c6
    obtain rfl := Option.some.inj H
    go_wp2
    go_ret
    exact ⟨_, by first | rfl | (simp [errW_none, errW_some] <;> rfl) | (simp [*, errW_none, errW_some] <;> rfl), by (with_reducible repeat (first | apply Kd.R_alloc | apply Kd.R_drewN | apply Kd.R_drew)); exact HO_5.out, bS1 HB GE181⟩
mutual
def topiaryref14_Kids.l0 : Nat → List (S23) → Int → List (S52) → List (S97) → List (S74) → List (S111) → Int → Int → Option ((List (S23)))
 | 0, _, _, _, _, _, _, _, _ => none
 | k + 1, x5, x6, x194000, x194001, x194002, x194003, x195000, x195001 => if x6 < (x194002.length : Int) then (if 0 ≤ x6 then (if (!(((rd_T74 x194002 x6).f0.f0) == x195000) || (!(((rd_T74 x194002 x6).f0.f1) == x195001))) = true then (topiaryref14_Kids.l0 k x5 (wrap64 (x6 + 1)) x194000 x194001 x194002 x194003 x195000 x195001) else (topiaryref14_Kids.l1 k x5 x6 0 x194000 x194001 x194002 x194003 x195000 x195001)) else (none)) else (some x5)
def topiaryref14_Kids.l1 : Nat → List (S23) → Int → Int → List (S52) → List (S97) → List (S74) → List (S111) → Int → Int → Option ((List (S23)))
 | 0, _, _, _, _, _, _, _, _, _ => none
 | k + 1, x5, x6, x7, x194000, x194001, x194002, x194003, x195000, x195001 => if 0 ≤ x6 then (if x6 < (x194002.length : Int) then (if x7 < (((rd_T74 x194002 x6).f1).length : Int) then (topiaryref14_Kids.l2 k x5 x6 x7 0 x194000 x194001 x194002 x194003 x195000 x195001) else (some x5)) else (none)) else (none)
def topiaryref14_Kids.l2 : Nat → List (S23) → Int → Int → Int → List (S52) → List (S97) → List (S74) → List (S111) → Int → Int → Option ((List (S23)))
 | 0, _, _, _, _, _, _, _, _, _, _ => none
 | k + 1, x5, x6, x7, x8, x194000, x194001, x194002, x194003, x195000, x195001 => if x8 < (x194001.length : Int) then (if 0 ≤ x8 then (if (((rd_T97 x194001 x8).f1.f0) == x195000 && (((rd_T97 x194001 x8).f1.f1) == x195001)) = true then (if 0 ≤ x6 then (if x6 < (x194002.length : Int) then (if 0 ≤ x7 then (if x7 < (((rd_T74 x194002 x6).f1).length : Int) then (if (((rd_T97 x194001 x8).f2.f0) == ((rd_T23 ((rd_T74 x194002 x6).f1) x7).f0) && (((rd_T97 x194001 x8).f2.f1) == ((rd_T23 ((rd_T74 x194002 x6).f1) x7).f1))) = true then (if x5.length < 8796093022208 then (topiaryref14_Kids.l2 k (x5 ++ [(⟨(rd_T97 x194001 x8).f0.f0, (rd_T97 x194001 x8).f0.f1⟩ : S23)]) x6 x7 (wrap64 (x8 + 1)) x194000 x194001 x194002 x194003 x195000 x195001) else (none)) else (topiaryref14_Kids.l2 k x5 x6 x7 (wrap64 (x8 + 1)) x194000 x194001 x194002 x194003 x195000 x195001)) else (none)) else (none)) else (none)) else (none)) else (topiaryref14_Kids.l2 k x5 x6 x7 (wrap64 (x8 + 1)) x194000 x194001 x194002 x194003 x195000 x195001)) else (none)) else (topiaryref14_Kids.l1 k x5 x6 (wrap64 (x7 + 1)) x194000 x194001 x194002 x194003 x195000 x195001)
end
def topiaryref14_Kids.f (k : Nat) (l0_0 : List (S52)) (l0_1 : List (S97)) (l0_2 : List (S74)) (l0_3 : List (S111)) (a1_0 : Int) (a1_1 : Int) : Option ((List (S23))) := topiaryref14_Kids.l0 k (([] : List (S23))) 0 l0_0 l0_1 l0_2 l0_3 a1_0 a1_1
set_option maxHeartbeats 8000000 in
set_option maxRecDepth 100000 in
theorem topiaryref14_Kids.calls (k : Nat) (A0_0 : Option Addr) (c0_0 : Nat) (l0_0 : List (S52)) (A0_1 : Option Addr) (c0_1 : Nat) (l0_1 : List (S97)) (A0_2 : Option Addr) (c0_2 : Nat) (l0_2 : List (S74)) (A0_3 : Option Addr) (c0_3 : Nat) (l0_3 : List (S111)) (a1_0 : Int) (a1_1 : Int) (r : List (S23)) (w : World) (hr0_0 : Kd.C k52 w A0_0 l0_0.length l0_0) (hc0_0 : l0_0.length ≤ c0_0) (hr0_1 : Kd.C k97 w A0_1 l0_1.length l0_1) (hc0_1 : l0_1.length ≤ c0_1) (hr0_2 : Kd.C k74 w A0_2 l0_2.length l0_2) (hc0_2 : l0_2.length ≤ c0_2) (hr0_3 : Kd.C k111 w A0_3 l0_3.length l0_3) (hc0_3 : l0_3.length ≤ c0_3) (h : topiaryref14_Kids.f k l0_0 l0_1 l0_2 l0_3 a1_0 a1_1 = some r) :
  Calls Try.prog 73 #[.agg #[.slice A0_0 l0_0.length c0_0, .slice A0_1 l0_1.length c0_1, .slice A0_2 l0_2.length c0_2, .slice A0_3 l0_3.length c0_3], .agg #[.int .i64 a1_0, .int .i64 a1_1]] w fun e w' => ∃ v0_ : Value, e = .returned (v0_) ∧ Kd.R k23 23 w' w.heap.size (fun _ => True) v0_ r ∧ Below w.heap.size w w' := by
 have hu39 := Try.underlying39
 have hu23 := Try.underlying23
 have HR0_0 := Aside0.mk hr0_0
 have HC0_0 := Aside0.mk hc0_0
 clear hr0_0 hc0_0
 have HR0_1 := Aside0.mk hr0_1
 have HC0_1 := Aside0.mk hc0_1
 clear hr0_1 hc0_1
 have HR0_2 := Aside0.mk hr0_2
 have HC0_2 := Aside0.mk hc0_2
 clear hr0_2 hc0_2
 have HR0_3 := Aside0.mk hr0_3
 have HC0_3 := Aside0.mk hc0_3
 clear hr0_3 hc0_3
 have HB := Aside0.mk (Below.refl w.heap.size w)
 have H : (topiaryref14_Kids.l0 k (([] : List (S23))) 0 l0_0 l0_1 l0_2 l0_3 a1_0 a1_1) = some r := h
 clear h
 obtain ⟨y195, hy195⟩ : ∃ y_ : List (S23), y_ = (([] : List (S23))) := ⟨_, rfl⟩
 replace H : (topiaryref14_Kids.l0 k y195 0 l0_0 l0_1 l0_2 l0_3 a1_0 a1_1) = some r := by first | (rw [hy195]; with_reducible exact H) | (have H2_ := (Option.bind_some _ _).symm.trans H; rw [hy195]; with_reducible exact H2_) | (have H2_ := (Option.bind_some _ _).symm.trans H; with_reducible exact H2_) | with_reducible exact H | (rw [hy195]; exact H) | exact H
 have Ny195 := Aside0.mk hy195
 clear hy195
 have H' := Aside0.mk H
 clear H
 go_enter Try.func73, Try.ntmps73
 go_wp2_with (first | ((with_reducible refine gate_dst (N := 2) rfl ?_); refine boxE (N := 2) (cs := #[.slice A0_0 l0_0.length c0_0, .slice A0_1 l0_1.length c0_1, .slice A0_2 l0_2.length c0_2, .slice A0_3 l0_3.length c0_3]) (t := 39) ?_; intro gb193 hg w3 hbox hb; have BK193 := Aside0.mk (hbox); have GW193 := Aside0.mk ((by rw [hg]; exact (below_size (bS HB)) : w.heap.size ≤ gb193)); have GE193 := Aside0.mk ((by rw [hg]; exact (below_size (bS HB)) : w.heap.size ≤ gb193)); replace HB := Aside0.mk (below_step (bS HB) hb); clear hb hbox hg) | ((with_reducible refine gate_dst (N := 3) rfl ?_); refine boxE (N := 3) (cs := #[.int .i64 a1_0, .int .i64 a1_1]) (t := 23) ?_; intro gb194 hg w4 hbox hb; have BK194 := Aside0.mk (hbox); have GW194 := Aside0.mk ((by rw [hg]; exact (below_size (bS1 HB GE193)) : w.heap.size ≤ gb194)); have GE194 := Aside0.mk ((by rw [hg]; exact (below_size (bS1 HB GE193)) : w.heap.size ≤ gb194)); have NB193_194 := nLt BK193 hg; have NB194_193 := nGt BK193 hg; replace BK193 := bB BK193 hb; replace HB := Aside0.mk (below_step (bS1 HB GE193) hb); clear hb hbox hg) | ((with_reducible refine gate_dst (N := 9) rfl ?_); refine Kd.R_lit k23 _ 23 ?hg (N := 9) ?hd (xs := ([] : List (S23))) (inner := []) (ok := fun _ => True) (okp := fun _ => True) ?hr ?hp (fun _ hk => hk) trivial (Below.refl _ _) (Nat.le_refl _) (by simp) ?_; (case hd => rfl); (case hg => rfl); (case hr => first | (go_simp; done) | (go_simp; rfl)); (case hp => exact (Reps.none _ _)); intro v196 w5 ho6 hb hg_ hnew_; clear hg_ hnew_; (first | rw [← Ny195.out] at ho6 | (simp only [Int.reduceToNat] at ho6; rw [← Ny195.out] at ho6)); have HO197 := Aside0.mk (Kd.R_lower (Kd.R_newB ho6 (g := gb194) (o := .cells #[.int .i64 a1_0, .int .i64 a1_1] 23 (0, 0)) (blkS BK194)) (below_size (bS2 HB GE193 GE194))); replace BK193 := bB BK193 hb; replace BK194 := bB BK194 hb; replace HB := Aside0.mk (below_step (bS2 HB GE193 GE194) hb); clear hb ho6))
 repeat (go_quiet (first | ((with_reducible refine gate_dst (N := 2) rfl ?_); refine boxE (N := 2) (cs := #[.slice A0_0 l0_0.length c0_0, .slice A0_1 l0_1.length c0_1, .slice A0_2 l0_2.length c0_2, .slice A0_3 l0_3.length c0_3]) (t := 39) ?_; intro gb193 hg w3 hbox hb; have BK193 := Aside0.mk (hbox); have GW193 := Aside0.mk ((by rw [hg]; exact (below_size (bS HB)) : w.heap.size ≤ gb193)); have GE193 := Aside0.mk ((by rw [hg]; exact (below_size (bS HB)) : w.heap.size ≤ gb193)); replace HB := Aside0.mk (below_step (bS HB) hb); clear hb hbox hg) | ((with_reducible refine gate_dst (N := 3) rfl ?_); refine boxE (N := 3) (cs := #[.int .i64 a1_0, .int .i64 a1_1]) (t := 23) ?_; intro gb194 hg w4 hbox hb; have BK194 := Aside0.mk (hbox); have GW194 := Aside0.mk ((by rw [hg]; exact (below_size (bS1 HB GE193)) : w.heap.size ≤ gb194)); have GE194 := Aside0.mk ((by rw [hg]; exact (below_size (bS1 HB GE193)) : w.heap.size ≤ gb194)); have NB193_194 := nLt BK193 hg; have NB194_193 := nGt BK193 hg; replace BK193 := bB BK193 hb; replace HB := Aside0.mk (below_step (bS1 HB GE193) hb); clear hb hbox hg) | ((with_reducible refine gate_dst (N := 9) rfl ?_); refine Kd.R_lit k23 _ 23 ?hg (N := 9) ?hd (xs := ([] : List (S23))) (inner := []) (ok := fun _ => True) (okp := fun _ => True) ?hr ?hp (fun _ hk => hk) trivial (Below.refl _ _) (Nat.le_refl _) (by simp) ?_; (case hd => rfl); (case hg => rfl); (case hr => first | (go_simp; done) | (go_simp; rfl)); (case hp => exact (Reps.none _ _)); intro v196 w5 ho6 hb hg_ hnew_; clear hg_ hnew_; (first | rw [← Ny195.out] at ho6 | (simp only [Int.reduceToNat] at ho6; rw [← Ny195.out] at ho6)); have HO197 := Aside0.mk (Kd.R_lower (Kd.R_newB ho6 (g := gb194) (o := .cells #[.int .i64 a1_0, .int .i64 a1_1] 23 (0, 0)) (blkS BK194)) (below_size (bS2 HB GE193 GE194))); replace BK193 := bB BK193 hb; replace BK194 := bB BK194 hb; replace HB := Aside0.mk (below_step (bS2 HB GE193 GE194) hb); clear hb ho6)); try go_wp2_with (first | ((with_reducible refine gate_dst (N := 2) rfl ?_); refine boxE (N := 2) (cs := #[.slice A0_0 l0_0.length c0_0, .slice A0_1 l0_1.length c0_1, .slice A0_2 l0_2.length c0_2, .slice A0_3 l0_3.length c0_3]) (t := 39) ?_; intro gb193 hg w3 hbox hb; have BK193 := Aside0.mk (hbox); have GW193 := Aside0.mk ((by rw [hg]; exact (below_size (bS HB)) : w.heap.size ≤ gb193)); have GE193 := Aside0.mk ((by rw [hg]; exact (below_size (bS HB)) : w.heap.size ≤ gb193)); replace HB := Aside0.mk (below_step (bS HB) hb); clear hb hbox hg) | ((with_reducible refine gate_dst (N := 3) rfl ?_); refine boxE (N := 3) (cs := #[.int .i64 a1_0, .int .i64 a1_1]) (t := 23) ?_; intro gb194 hg w4 hbox hb; have BK194 := Aside0.mk (hbox); have GW194 := Aside0.mk ((by rw [hg]; exact (below_size (bS1 HB GE193)) : w.heap.size ≤ gb194)); have GE194 := Aside0.mk ((by rw [hg]; exact (below_size (bS1 HB GE193)) : w.heap.size ≤ gb194)); have NB193_194 := nLt BK193 hg; have NB194_193 := nGt BK193 hg; replace BK193 := bB BK193 hb; replace HB := Aside0.mk (below_step (bS1 HB GE193) hb); clear hb hbox hg) | ((with_reducible refine gate_dst (N := 9) rfl ?_); refine Kd.R_lit k23 _ 23 ?hg (N := 9) ?hd (xs := ([] : List (S23))) (inner := []) (ok := fun _ => True) (okp := fun _ => True) ?hr ?hp (fun _ hk => hk) trivial (Below.refl _ _) (Nat.le_refl _) (by simp) ?_; (case hd => rfl); (case hg => rfl); (case hr => first | (go_simp; done) | (go_simp; rfl)); (case hp => exact (Reps.none _ _)); intro v196 w5 ho6 hb hg_ hnew_; clear hg_ hnew_; (first | rw [← Ny195.out] at ho6 | (simp only [Int.reduceToNat] at ho6; rw [← Ny195.out] at ho6)); have HO197 := Aside0.mk (Kd.R_lower (Kd.R_newB ho6 (g := gb194) (o := .cells #[.int .i64 a1_0, .int .i64 a1_1] 23 (0, 0)) (blkS BK194)) (below_size (bS2 HB GE193 GE194))); replace BK193 := bB BK193 hb; replace BK194 := bB BK194 hb; replace HB := Aside0.mk (below_step (bS2 HB GE193 GE194) hb); clear hb ho6)))
 go_loopg [5, 6] k (fun kq v5 v6 w' => ∃ (x5_1 : List (S23)) (x6_1 : Int), v6 = .int .i64 x6_1 ∧ Aside0 (topiaryref14_Kids.l0 kq x5_1 x6_1 l0_0 l0_1 l0_2 l0_3 a1_0 a1_1 = some r) ∧ Aside0 (kq ≤ k) ∧ Aside0 (Kd.R k23 23 w' w.heap.size (fun k_ => k_ ≠ gb194) v5 x5_1) ∧ Aside0 (w'.heap[gb193]? = some (.cells #[(.slice A0_0 l0_0.length c0_0), (.slice A0_1 l0_1.length c0_1), (.slice A0_2 l0_2.length c0_2), (.slice A0_3 l0_3.length c0_3)] 39 (0, 0))) ∧ Aside0 (w'.heap[gb194]? = some (.cells #[.int .i64 a1_0, .int .i64 a1_1] 23 (0, 0))) ∧ Aside0 (Below w.heap.size w w'))
 case atStart => exact ⟨(y195), (0), (by first | rfl | (simp; done) | (simp [*]; done)), H', ⟨Nat.le_refl _⟩, ⟨by (with_reducible repeat (first | apply Kd.R_alloc | apply Kd.R_drewN | apply Kd.R_drew)); exact Kd.R_mono HO197.out (fun _ hk => hk.2)⟩, ⟨by (with_reducible repeat (first | refine blk_drewN ?_ _ | refine blk_drew ?_ | refine blk_alloc ?_ _)); exact BK193.out⟩, ⟨by (with_reducible repeat (first | refine blk_drewN ?_ _ | refine blk_drew ?_ | refine blk_alloc ?_ _)); exact BK194.out⟩, ⟨bS2 HB GE193 GE194⟩⟩
 case round =>
  clear H'
  (try clear p2)
  obtain ⟨x5_1, x6_1, rfl, HA, HK1, HO_5, BK193, BK194, HB⟩ := hrel
  cases gk with
  | zero => exact absurd HA.out (by simp [topiaryref14_Kids.l0])
  | succ k1 =>
   have H := HA.out
   clear HA
   simp only [topiaryref14_Kids.l0] at H
   by_cases c7 : x6_1 < (l0_2.length : Int)
   ·rw [if_pos c7] at H
    have c7b0 : decide (x6_1 < (l0_2.length : Int)) = true := decide_eq_true c7
    clear c7
    by_cases c8 : 0 ≤ x6_1
    ·rw [if_pos c8] at H
     have c8b0 : decide (0 ≤ x6_1) = true := decide_eq_true c8
     clear c8
     by_cases c9 : (!(((rd_T74 l0_2 x6_1).f0.f0) == a1_0) || (!(((rd_T74 l0_2 x6_1).f0.f1) == a1_1))) = true
     ·rw [if_pos c9] at H
      have c9b0 : (!(((rd_T74 l0_2 x6_1).f0.f0) == a1_0) || (!(((rd_T74 l0_2 x6_1).f0.f1) == a1_1))) = true := c9
      clear c9
      have H' := Aside0.mk H
      clear H
      have hnb10 := NB193_194.out
      have hnc10 := NB194_193.out
      obtain ⟨hcz11_0, hcz11_1, hcz11_2, hcz11_3, hfz11_0, hfz11_1, hfz11_2, hfz11_3⟩ := b4e BK193
      have p198 : 0 ≤ (x6_1 : Int) := of_decide_eq_true asmS
      have q198 : x6_1 < (l0_2.length : Int) := of_decide_eq_true asmS
      obtain ⟨ad198, A198_2, c198_2, e198, hx198_0, hx198_1, hx198_2, hl198_2, hi198_2⟩ := at_T74 HR0_2.out x6_1 p198 q198
      cases e198
      replace hx198_0 := (HB.out.cell (World.block_lt_of_cell? w _ hx198_0)).trans hx198_0
      replace hx198_1 := (HB.out.cell (World.block_lt_of_cell? w _ hx198_1)).trans hx198_1
      replace hx198_2 := (HB.out.cell (World.block_lt_of_cell? w _ hx198_2)).trans hx198_2
      have HR198_2 := Aside0.mk hi198_2
      have HC198_2 := Aside0.mk hl198_2
      clear hi198_2 hl198_2
      replace p198 := eq_true p198
      replace q198 := eq_true q198
      obtain ⟨hcz12_0, hcz12_1, hfz12_0, hfz12_1⟩ := b2e BK194
      go_wp2
      repeat (go_quiet (fail); try go_wp2)
      go_roundg k1
      case measure => have := HK1.out; omega
      case rel => exact ⟨(x5_1), (wrap64 (x6_1 + 1)), (by first | rfl | (simp; done) | (simp [*]; done)), H', ⟨by have := HK1.out; omega⟩, ⟨by (with_reducible repeat (first | apply Kd.R_alloc | apply Kd.R_drewN | apply Kd.R_drew)); exact HO_5.out⟩, ⟨by (with_reducible repeat (first | refine blk_drewN ?_ _ | refine blk_drew ?_ | refine blk_alloc ?_ _)); exact BK193.out⟩, ⟨by (with_reducible repeat (first | refine blk_drewN ?_ _ | refine blk_drew ?_ | refine blk_alloc ?_ _)); exact BK194.out⟩, ⟨bS2 HB GE193 GE194⟩⟩
     ·rw [if_neg c9] at H
      have c9b0 : (!(((rd_T74 l0_2 x6_1).f0.f0) == a1_0) || (!(((rd_T74 l0_2 x6_1).f0.f1) == a1_1))) = false := by simpa using c9
      clear c9
      have H' := Aside0.mk H
      clear H
      have hnb13 := NB193_194.out
      have hnc13 := NB194_193.out
      obtain ⟨hcz14_0, hcz14_1, hcz14_2, hcz14_3, hfz14_0, hfz14_1, hfz14_2, hfz14_3⟩ := b4e BK193
      have p198 : 0 ≤ (x6_1 : Int) := of_decide_eq_true asmS
      have q198 : x6_1 < (l0_2.length : Int) := of_decide_eq_true asmS
      obtain ⟨ad198, A198_2, c198_2, e198, hx198_0, hx198_1, hx198_2, hl198_2, hi198_2⟩ := at_T74 HR0_2.out x6_1 p198 q198
      cases e198
      replace hx198_0 := (HB.out.cell (World.block_lt_of_cell? w _ hx198_0)).trans hx198_0
      replace hx198_1 := (HB.out.cell (World.block_lt_of_cell? w _ hx198_1)).trans hx198_1
      replace hx198_2 := (HB.out.cell (World.block_lt_of_cell? w _ hx198_2)).trans hx198_2
      have HR198_2 := Aside0.mk hi198_2
      have HC198_2 := Aside0.mk hl198_2
      clear hi198_2 hl198_2
      replace p198 := eq_true p198
      replace q198 := eq_true q198
      obtain ⟨hcz15_0, hcz15_1, hfz15_0, hfz15_1⟩ := b2e BK194
      go_wp2
      repeat (go_quiet (fail); try go_wp2)
      go_loopg [5, 7] k1 (fun kq v5 v7 w' => ∃ (x5_2 : List (S23)) (x7_2 : Int), v7 = .int .i64 x7_2 ∧ Aside0 (topiaryref14_Kids.l1 kq x5_2 x6_1 x7_2 l0_0 l0_1 l0_2 l0_3 a1_0 a1_1 = some r) ∧ Aside0 (kq ≤ k1) ∧ Aside0 (Kd.R k23 23 w' w.heap.size (fun k_ => k_ ≠ gb194) v5 x5_2) ∧ Aside0 (w'.heap[gb193]? = some (.cells #[(.slice A0_0 l0_0.length c0_0), (.slice A0_1 l0_1.length c0_1), (.slice (some ad198) l0_2.length c0_2), (.slice A0_3 l0_3.length c0_3)] 39 (0, 0))) ∧ Aside0 (w'.heap[gb194]? = some (.cells #[.int .i64 a1_0, .int .i64 a1_1] 23 (0, 0))) ∧ Aside0 (Below w.heap.size w w'))
      case atStart => exact ⟨(x5_1), (0), (by first | rfl | (simp; done) | (simp [*]; done)), H', ⟨Nat.le_refl _⟩, ⟨by (with_reducible repeat (first | apply Kd.R_alloc | apply Kd.R_drewN | apply Kd.R_drew)); exact HO_5.out⟩, ⟨by (with_reducible repeat (first | refine blk_drewN ?_ _ | refine blk_drew ?_ | refine blk_alloc ?_ _)); exact BK193.out⟩, ⟨by (with_reducible repeat (first | refine blk_drewN ?_ _ | refine blk_drew ?_ | refine blk_alloc ?_ _)); exact BK194.out⟩, ⟨bS2 HB GE193 GE194⟩⟩
      case round =>
       clear H'
       (try clear c1); (try clear p1); (try clear q1); (try clear hx1); (try clear p2); (try clear p2); (try clear p6); (try clear c7); (try clear c7b0); (try clear c8); (try clear c8b0); (try clear c9); (try clear c9b0); (try clear c10); (try clear c13); (try clear hcz11_0 hcz11_1 hcz11_2 hcz11_3); (try clear hcz12_0 hcz12_1); (try clear hcz14_0 hcz14_1 hcz14_2 hcz14_3); (try clear hcz15_0 hcz15_1); (try clear hfz11_0 hfz11_1 hfz11_2 hfz11_3); (try clear hfz12_0 hfz12_1); (try clear hfz14_0 hfz14_1 hfz14_2 hfz14_3); (try clear hfz15_0 hfz15_1); (try clear hx198_0); (try clear hx198_1); (try clear hx198_2); (try clear p198); (try clear q198)
       obtain ⟨x5_2, x7_2, rfl, HA, HK2, HO_5, BK193, BK194, HB⟩ := hrel
       cases gk with
       | zero => exact absurd HA.out (by simp [topiaryref14_Kids.l1])
       | succ k2 =>
        have H := HA.out
        clear HA
        simp only [topiaryref14_Kids.l1] at H
        by_cases c16 : 0 ≤ x6_1
        ·rw [if_pos c16] at H
         have c16b0 : decide (0 ≤ x6_1) = true := decide_eq_true c16
         clear c16
         by_cases c17 : x6_1 < (l0_2.length : Int)
         ·rw [if_pos c17] at H
          have c17b0 : decide (x6_1 < (l0_2.length : Int)) = true := decide_eq_true c17
          clear c17
          by_cases c18 : x7_2 < (((rd_T74 l0_2 x6_1).f1).length : Int)
          ·rw [if_pos c18] at H
           have c18b0 : decide (x7_2 < (((rd_T74 l0_2 x6_1).f1).length : Int)) = true := decide_eq_true c18
           clear c18
           have H' := Aside0.mk H
           clear H
           have hnb19 := NB193_194.out
           have hnc19 := NB194_193.out
           obtain ⟨hcz20_0, hcz20_1, hcz20_2, hcz20_3, hfz20_0, hfz20_1, hfz20_2, hfz20_3⟩ := b4e BK193
           have p199 : 0 ≤ (x6_1 : Int) := of_decide_eq_true asmS
           have q199 : x6_1 < (l0_2.length : Int) := of_decide_eq_true asmS
           obtain ⟨ad199, A199_2, c199_2, e199, hx199_0, hx199_1, hx199_2, hl199_2, hi199_2⟩ := at_T74 HR0_2.out x6_1 p199 q199
           obtain rfl : ad198 = ad199 := (by injection e199)
           replace hx199_0 := (HB.out.cell (World.block_lt_of_cell? w _ hx199_0)).trans hx199_0
           replace hx199_1 := (HB.out.cell (World.block_lt_of_cell? w _ hx199_1)).trans hx199_1
           replace hx199_2 := (HB.out.cell (World.block_lt_of_cell? w _ hx199_2)).trans hx199_2
           have HR199_2 := Aside0.mk hi199_2
           have HC199_2 := Aside0.mk hl199_2
           clear hi199_2 hl199_2
           replace p199 := eq_true p199
           replace q199 := eq_true q199
           go_wp2
           repeat (go_quiet (fail); try go_wp2)
           go_loopg [5, 8] k2 (fun kq v5 v8 w' => ∃ (x5_3 : List (S23)) (x8_3 : Int), v8 = .int .i64 x8_3 ∧ Aside0 (topiaryref14_Kids.l2 kq x5_3 x6_1 x7_2 x8_3 l0_0 l0_1 l0_2 l0_3 a1_0 a1_1 = some r) ∧ Aside0 (kq ≤ k2) ∧ Aside0 (Kd.R k23 23 w' w.heap.size (fun k_ => k_ ≠ gb194) v5 x5_3) ∧ Aside0 (w'.heap[gb193]? = some (.cells #[(.slice A0_0 l0_0.length c0_0), (.slice A0_1 l0_1.length c0_1), (.slice (some ad198) l0_2.length c0_2), (.slice A0_3 l0_3.length c0_3)] 39 (0, 0))) ∧ Aside0 (w'.heap[gb194]? = some (.cells #[.int .i64 a1_0, .int .i64 a1_1] 23 (0, 0))) ∧ Aside0 (Below w.heap.size w w'))
           case atStart => exact ⟨(x5_2), (0), (by first | rfl | (simp; done) | (simp [*]; done)), H', ⟨Nat.le_refl _⟩, ⟨by (with_reducible repeat (first | apply Kd.R_alloc | apply Kd.R_drewN | apply Kd.R_drew)); exact HO_5.out⟩, ⟨by (with_reducible repeat (first | refine blk_drewN ?_ _ | refine blk_drew ?_ | refine blk_alloc ?_ _)); exact BK193.out⟩, ⟨by (with_reducible repeat (first | refine blk_drewN ?_ _ | refine blk_drew ?_ | refine blk_alloc ?_ _)); exact BK194.out⟩, ⟨bS2 HB GE193 GE194⟩⟩
           case round =>
            clear H'
            (try clear c1); (try clear p1); (try clear p1); (try clear q1); (try clear q1); (try clear hx1); (try clear p2); (try clear p2); (try clear p6); (try clear p6); (try clear c7); (try clear c7b0); (try clear c8); (try clear c8b0); (try clear c9); (try clear c9b0); (try clear c10); (try clear c13); (try clear c16); (try clear c16b0); (try clear c17); (try clear c17b0); (try clear c18); (try clear c18b0); (try clear c19); (try clear p19); (try clear q19); (try clear hx19); (try clear hcz11_0 hcz11_1 hcz11_2 hcz11_3); (try clear hcz12_0 hcz12_1); (try clear hcz14_0 hcz14_1 hcz14_2 hcz14_3); (try clear hcz15_0 hcz15_1); (try clear hcz20_0 hcz20_1 hcz20_2 hcz20_3); (try clear hfz11_0 hfz11_1 hfz11_2 hfz11_3); (try clear hfz12_0 hfz12_1); (try clear hfz14_0 hfz14_1 hfz14_2 hfz14_3); (try clear hfz15_0 hfz15_1); (try clear hfz20_0 hfz20_1 hfz20_2 hfz20_3); (try clear hx198_0); (try clear hx198_1); (try clear hx198_2); (try clear hx199_0); (try clear hx199_1); (try clear hx199_2); (try clear p198); (try clear p199); (try clear q198); (try clear q199)
            obtain ⟨x5_3, x8_3, rfl, HA, HK3, HO_5, BK193, BK194, HB⟩ := hrel
            cases gk with
            | zero => exact absurd HA.out (by simp [topiaryref14_Kids.l2])
            | succ k3 =>
             have H := HA.out
             clear HA
             simp only [topiaryref14_Kids.l2] at H
             by_cases c21 : x8_3 < (l0_1.length : Int)
             ·rw [if_pos c21] at H
              have c21b0 : decide (x8_3 < (l0_1.length : Int)) = true := decide_eq_true c21
              clear c21
              by_cases c22 : 0 ≤ x8_3
              ·rw [if_pos c22] at H
               have c22b0 : decide (0 ≤ x8_3) = true := decide_eq_true c22
               clear c22
               by_cases c23 : (((rd_T97 l0_1 x8_3).f1.f0) == a1_0 && (((rd_T97 l0_1 x8_3).f1.f1) == a1_1)) = true
               ·rw [if_pos c23] at H
                have c23b0 : (((rd_T97 l0_1 x8_3).f1.f0) == a1_0 && (((rd_T97 l0_1 x8_3).f1.f1) == a1_1)) = true := c23
                (try (have c23b1 : decide (((rd_T97 l0_1 x8_3).f1.f0) = a1_0 && (((rd_T97 l0_1 x8_3).f1.f1) == a1_1)) = true := by simpa using c23))
                (try (have c23b2 : (((rd_T97 l0_1 x8_3).f1.f0) == a1_0 && (((rd_T97 l0_1 x8_3).f1.f1) == a1_1)) = true := by simpa using c23))
                clear c23
                by_cases c24 : 0 ≤ x6_1
                ·rw [if_pos c24] at H
                 have c24b0 : decide (0 ≤ x6_1) = true := decide_eq_true c24
                 clear c24
                 by_cases c25 : x6_1 < (l0_2.length : Int)
                 ·rw [if_pos c25] at H
                  have c25b0 : decide (x6_1 < (l0_2.length : Int)) = true := decide_eq_true c25
                  clear c25
                  by_cases c26 : 0 ≤ x7_2
                  ·rw [if_pos c26] at H
                   have c26b0 : decide (0 ≤ x7_2) = true := decide_eq_true c26
                   clear c26
                   by_cases c27 : x7_2 < (((rd_T74 l0_2 x6_1).f1).length : Int)
                   ·rw [if_pos c27] at H
                    have c27b0 : decide (x7_2 < (((rd_T74 l0_2 x6_1).f1).length : Int)) = true := decide_eq_true c27
                    clear c27
                    by_cases c28 : (((rd_T97 l0_1 x8_3).f2.f0) == ((rd_T23 ((rd_T74 l0_2 x6_1).f1) x7_2).f0) && (((rd_T97 l0_1 x8_3).f2.f1) == ((rd_T23 ((rd_T74 l0_2 x6_1).f1) x7_2).f1))) = true
                    ·rw [if_pos c28] at H
                     have c28b0 : (((rd_T97 l0_1 x8_3).f2.f0) == ((rd_T23 ((rd_T74 l0_2 x6_1).f1) x7_2).f0) && (((rd_T97 l0_1 x8_3).f2.f1) == ((rd_T23 ((rd_T74 l0_2 x6_1).f1) x7_2).f1))) = true := c28
                     (try (have c28b1 : decide (((rd_T97 l0_1 x8_3).f2.f0) = ((rd_T23 ((rd_T74 l0_2 x6_1).f1) x7_2).f0) && (((rd_T97 l0_1 x8_3).f2.f1) == ((rd_T23 ((rd_T74 l0_2 x6_1).f1) x7_2).f1))) = true := by simpa using c28))
                     (try (have c28b2 : (((rd_T97 l0_1 x8_3).f2.f0) == ((rd_T23 ((rd_T74 l0_2 x6_1).f1) x7_2).f0) && (((rd_T97 l0_1 x8_3).f2.f1) == ((rd_T23 ((rd_T74 l0_2 x6_1).f1) x7_2).f1))) = true := by simpa using c28))
                     clear c28
                     by_cases c29 : x5_3.length < 8796093022208
                     ·rw [if_pos c29] at H
                      have LMc29 := Aside0.mk c29
                      clear c29
                      obtain ⟨y205, hy205⟩ : ∃ y_ : List (S23), y_ = (x5_3 ++ [(⟨(rd_T97 l0_1 x8_3).f0.f0, (rd_T97 l0_1 x8_3).f0.f1⟩ : S23)]) := ⟨_, rfl⟩
                      replace H : (topiaryref14_Kids.l2 k3 y205 x6_1 x7_2 (wrap64 (x8_3 + 1)) l0_0 l0_1 l0_2 l0_3 a1_0 a1_1) = some r := by first | (rw [hy205]; with_reducible exact H) | (have H2_ := (Option.bind_some _ _).symm.trans H; rw [hy205]; with_reducible exact H2_) | (have H2_ := (Option.bind_some _ _).symm.trans H; with_reducible exact H2_) | with_reducible exact H | (rw [hy205]; exact H) | exact H
                      have Ny205 := Aside0.mk hy205
                      clear hy205
                      have H' := Aside0.mk H
                      clear H
                      have hnb30 := NB193_194.out
                      have hnc30 := NB194_193.out
                      obtain ⟨hcz31_0, hcz31_1, hcz31_2, hcz31_3, hfz31_0, hfz31_1, hfz31_2, hfz31_3⟩ := b4e BK193
                      have p200 : 0 ≤ (x8_3 : Int) := of_decide_eq_true asmS
                      have q200 : x8_3 < (l0_1.length : Int) := of_decide_eq_true asmS
                      obtain ⟨ad200, e200, hx200_0, hx200_1, hx200_2, hx200_3, hx200_4, hx200_5⟩ := at_T97 HR0_1.out x8_3 p200 q200
                      cases e200
                      replace hx200_0 := (HB.out.cell (World.block_lt_of_cell? w _ hx200_0)).trans hx200_0
                      replace hx200_1 := (HB.out.cell (World.block_lt_of_cell? w _ hx200_1)).trans hx200_1
                      replace hx200_2 := (HB.out.cell (World.block_lt_of_cell? w _ hx200_2)).trans hx200_2
                      replace hx200_3 := (HB.out.cell (World.block_lt_of_cell? w _ hx200_3)).trans hx200_3
                      replace hx200_4 := (HB.out.cell (World.block_lt_of_cell? w _ hx200_4)).trans hx200_4
                      replace hx200_5 := (HB.out.cell (World.block_lt_of_cell? w _ hx200_5)).trans hx200_5
                      replace p200 := eq_true p200
                      replace q200 := eq_true q200
                      obtain ⟨hcz32_0, hcz32_1, hfz32_0, hfz32_1⟩ := b2e BK194
                      have p201 : 0 ≤ (x8_3 : Int) := of_decide_eq_true asmS
                      have q201 : x8_3 < (l0_1.length : Int) := of_decide_eq_true asmS
                      obtain ⟨ad201, e201, hx201_0, hx201_1, hx201_2, hx201_3, hx201_4, hx201_5⟩ := at_T97 HR0_1.out x8_3 p201 q201
                      obtain rfl : ad200 = ad201 := (by injection e201)
                      replace hx201_0 := (HB.out.cell (World.block_lt_of_cell? w _ hx201_0)).trans hx201_0
                      replace hx201_1 := (HB.out.cell (World.block_lt_of_cell? w _ hx201_1)).trans hx201_1
                      replace hx201_2 := (HB.out.cell (World.block_lt_of_cell? w _ hx201_2)).trans hx201_2
                      replace hx201_3 := (HB.out.cell (World.block_lt_of_cell? w _ hx201_3)).trans hx201_3
                      replace hx201_4 := (HB.out.cell (World.block_lt_of_cell? w _ hx201_4)).trans hx201_4
                      replace hx201_5 := (HB.out.cell (World.block_lt_of_cell? w _ hx201_5)).trans hx201_5
                      replace p201 := eq_true p201
                      replace q201 := eq_true q201
                      have p202 : 0 ≤ (x6_1 : Int) := of_decide_eq_true asmS
                      have q202 : x6_1 < (l0_2.length : Int) := of_decide_eq_true asmS
                      obtain ⟨ad202, A202_2, c202_2, e202, hx202_0, hx202_1, hx202_2, hl202_2, hi202_2⟩ := at_T74 HR0_2.out x6_1 p202 q202
                      obtain rfl : ad198 = ad202 := (by injection e202)
                      replace hx202_0 := (HB.out.cell (World.block_lt_of_cell? w _ hx202_0)).trans hx202_0
                      replace hx202_1 := (HB.out.cell (World.block_lt_of_cell? w _ hx202_1)).trans hx202_1
                      replace hx202_2 := (HB.out.cell (World.block_lt_of_cell? w _ hx202_2)).trans hx202_2
                      have HR202_2 := Aside0.mk hi202_2
                      have HC202_2 := Aside0.mk hl202_2
                      clear hi202_2 hl202_2
                      replace p202 := eq_true p202
                      replace q202 := eq_true q202
                      have p203 : 0 ≤ (x7_2 : Int) := of_decide_eq_true asmS
                      have q203 : x7_2 < (((rd_T74 l0_2 x6_1).f1).length : Int) := of_decide_eq_true asmS
                      obtain ⟨ad203, e203, hx203_0, hx203_1⟩ := at_T23 HR202_2.out x7_2 p203 q203
                      cases e203
                      replace hx203_0 := (HB.out.cell (World.block_lt_of_cell? w _ hx203_0)).trans hx203_0
                      replace hx203_1 := (HB.out.cell (World.block_lt_of_cell? w _ hx203_1)).trans hx203_1
                      replace p203 := eq_true p203
                      replace q203 := eq_true q203
                      have p204 : 0 ≤ (x8_3 : Int) := of_decide_eq_true asmS
                      have q204 : x8_3 < (l0_1.length : Int) := of_decide_eq_true asmS
                      obtain ⟨ad204, e204, hx204_0, hx204_1, hx204_2, hx204_3, hx204_4, hx204_5⟩ := at_T97 HR0_1.out x8_3 p204 q204
                      obtain rfl : ad200 = ad204 := (by injection e204)
                      replace hx204_0 := (HB.out.cell (World.block_lt_of_cell? w _ hx204_0)).trans hx204_0
                      replace hx204_1 := (HB.out.cell (World.block_lt_of_cell? w _ hx204_1)).trans hx204_1
                      replace hx204_2 := (HB.out.cell (World.block_lt_of_cell? w _ hx204_2)).trans hx204_2
                      replace hx204_3 := (HB.out.cell (World.block_lt_of_cell? w _ hx204_3)).trans hx204_3
                      replace hx204_4 := (HB.out.cell (World.block_lt_of_cell? w _ hx204_4)).trans hx204_4
                      replace hx204_5 := (HB.out.cell (World.block_lt_of_cell? w _ hx204_5)).trans hx204_5
                      replace p204 := eq_true p204
                      replace q204 := eq_true q204
                      go_wp2_with (first | ((with_reducible refine gate_builtin (b := .append) (xs := #[.tmp 69, .tmp 76]) rfl ?_); at_builtin; refine Kd.R_append k23 (w0 := w) w.heap.size rfl (.tmp 69) (.tmp 76) 48 23 (.agg #[(.int .i64 0), (.int .i64 0)]) 16 rfl Try.underlying48 info23 rfl (by decide) (by omega) u5 x5_3 (⟨(rd_T97 l0_1 x8_3).f0.f0, (rd_T97 l0_1 x8_3).f0.f1⟩ : S23) [.int .i64 ((rd_T97 l0_1 x8_3).f0.f0), .int .i64 ((rd_T97 l0_1 x8_3).f0.f1)] (fun k_ => k_ ≠ gb194) (fun _ => False) rfl rfl ?aP (fun _ hk => hk.elim) ?aF ?aO ?aB ?aS ?aL ?_; (case aP => exact k23_mkM _ _ _ (⟨(rd_T97 l0_1 x8_3).f0.f0, (rd_T97 l0_1 x8_3).f0.f1⟩ : S23)); (case aB => exact (bS2 HB GE193 GE194)); (case aF => exact (fun k_ hk => Kd.freshB (g := gb194) (o := .cells #[.int .i64 a1_0, .int .i64 a1_1] 23 (0, 0)) (blkS BK194) k_ hk)); (case aO => exact (RS HO_5)); (case aS => exact (below_size (bS2 HB GE193 GE194))); (case aL => have := LMc29.out; omega); intro v206 w33 ho hb hg hat; rw [← Ny205.out] at ho; have n0_ := Aside0.mk (blk_grown (blkS BK193) hg (Kd.R_ne HO_5.out BK193.out (by decide))); have n1_ := Aside0.mk (blk_grown (blkS BK194) hg (Kd.R_away HO_5.out (fun _ hk => hk))); have n2_ := Aside0.mk (hb); have n3_ := Aside0.mk (ho); clear BK193; clear BK194; clear HB; clear HO_5; have BK193 := n0_; have BK194 := n1_; have HB := n2_; have HO207 := n3_; clear n0_ n1_ n2_ n3_; clear ho hb hg hat))
                      repeat (go_quiet (first | ((with_reducible refine gate_builtin (b := .append) (xs := #[.tmp 69, .tmp 76]) rfl ?_); at_builtin; refine Kd.R_append k23 (w0 := w) w.heap.size rfl (.tmp 69) (.tmp 76) 48 23 (.agg #[(.int .i64 0), (.int .i64 0)]) 16 rfl Try.underlying48 info23 rfl (by decide) (by omega) u5 x5_3 (⟨(rd_T97 l0_1 x8_3).f0.f0, (rd_T97 l0_1 x8_3).f0.f1⟩ : S23) [.int .i64 ((rd_T97 l0_1 x8_3).f0.f0), .int .i64 ((rd_T97 l0_1 x8_3).f0.f1)] (fun k_ => k_ ≠ gb194) (fun _ => False) rfl rfl ?aP (fun _ hk => hk.elim) ?aF ?aO ?aB ?aS ?aL ?_; (case aP => exact k23_mkM _ _ _ (⟨(rd_T97 l0_1 x8_3).f0.f0, (rd_T97 l0_1 x8_3).f0.f1⟩ : S23)); (case aB => exact (bS2 HB GE193 GE194)); (case aF => exact (fun k_ hk => Kd.freshB (g := gb194) (o := .cells #[.int .i64 a1_0, .int .i64 a1_1] 23 (0, 0)) (blkS BK194) k_ hk)); (case aO => exact (RS HO_5)); (case aS => exact (below_size (bS2 HB GE193 GE194))); (case aL => have := LMc29.out; omega); intro v206 w33 ho hb hg hat; rw [← Ny205.out] at ho; have n0_ := Aside0.mk (blk_grown (blkS BK193) hg (Kd.R_ne HO_5.out BK193.out (by decide))); have n1_ := Aside0.mk (blk_grown (blkS BK194) hg (Kd.R_away HO_5.out (fun _ hk => hk))); have n2_ := Aside0.mk (hb); have n3_ := Aside0.mk (ho); clear BK193; clear BK194; clear HB; clear HO_5; have BK193 := n0_; have BK194 := n1_; have HB := n2_; have HO207 := n3_; clear n0_ n1_ n2_ n3_; clear ho hb hg hat)); try go_wp2_with (first | ((with_reducible refine gate_builtin (b := .append) (xs := #[.tmp 69, .tmp 76]) rfl ?_); at_builtin; refine Kd.R_append k23 (w0 := w) w.heap.size rfl (.tmp 69) (.tmp 76) 48 23 (.agg #[(.int .i64 0), (.int .i64 0)]) 16 rfl Try.underlying48 info23 rfl (by decide) (by omega) u5 x5_3 (⟨(rd_T97 l0_1 x8_3).f0.f0, (rd_T97 l0_1 x8_3).f0.f1⟩ : S23) [.int .i64 ((rd_T97 l0_1 x8_3).f0.f0), .int .i64 ((rd_T97 l0_1 x8_3).f0.f1)] (fun k_ => k_ ≠ gb194) (fun _ => False) rfl rfl ?aP (fun _ hk => hk.elim) ?aF ?aO ?aB ?aS ?aL ?_; (case aP => exact k23_mkM _ _ _ (⟨(rd_T97 l0_1 x8_3).f0.f0, (rd_T97 l0_1 x8_3).f0.f1⟩ : S23)); (case aB => exact (bS2 HB GE193 GE194)); (case aF => exact (fun k_ hk => Kd.freshB (g := gb194) (o := .cells #[.int .i64 a1_0, .int .i64 a1_1] 23 (0, 0)) (blkS BK194) k_ hk)); (case aO => exact (RS HO_5)); (case aS => exact (below_size (bS2 HB GE193 GE194))); (case aL => have := LMc29.out; omega); intro v206 w33 ho hb hg hat; rw [← Ny205.out] at ho; have n0_ := Aside0.mk (blk_grown (blkS BK193) hg (Kd.R_ne HO_5.out BK193.out (by decide))); have n1_ := Aside0.mk (blk_grown (blkS BK194) hg (Kd.R_away HO_5.out (fun _ hk => hk))); have n2_ := Aside0.mk (hb); have n3_ := Aside0.mk (ho); clear BK193; clear BK194; clear HB; clear HO_5; have BK193 := n0_; have BK194 := n1_; have HB := n2_; have HO207 := n3_; clear n0_ n1_ n2_ n3_; clear ho hb hg hat)))
                      go_roundg k3
                      case measure => have := HK1.out; have := HK2.out; have := HK3.out; omega
                      case rel => exact ⟨(y205), (wrap64 (x8_3 + 1)), (by first | rfl | (simp; done) | (simp [*]; done)), H', ⟨by have := HK1.out; have := HK2.out; have := HK3.out; omega⟩, ⟨by (with_reducible repeat (first | apply Kd.R_alloc | apply Kd.R_drewN | apply Kd.R_drew)); exact HO207.out⟩, ⟨by (with_reducible repeat (first | refine blk_drewN ?_ _ | refine blk_drew ?_ | refine blk_alloc ?_ _)); exact BK193.out⟩, ⟨by (with_reducible repeat (first | refine blk_drewN ?_ _ | refine blk_drew ?_ | refine blk_alloc ?_ _)); exact BK194.out⟩, ⟨bS2 HB GE193 GE194⟩⟩
                     ·rw [if_neg c29] at H
                      exact absurd H (by simp)
                    ·rw [if_neg c28] at H
                     have c28b0 : (((rd_T97 l0_1 x8_3).f2.f0) == ((rd_T23 ((rd_T74 l0_2 x6_1).f1) x7_2).f0) && (((rd_T97 l0_1 x8_3).f2.f1) == ((rd_T23 ((rd_T74 l0_2 x6_1).f1) x7_2).f1))) = false := by simpa using c28
                     (try (have c28b1 : decide (((rd_T97 l0_1 x8_3).f2.f0) = ((rd_T23 ((rd_T74 l0_2 x6_1).f1) x7_2).f0) && (((rd_T97 l0_1 x8_3).f2.f1) == ((rd_T23 ((rd_T74 l0_2 x6_1).f1) x7_2).f1))) = false := by simpa using c28))
                     (try (have c28b2 : (((rd_T97 l0_1 x8_3).f2.f0) == ((rd_T23 ((rd_T74 l0_2 x6_1).f1) x7_2).f0) && (((rd_T97 l0_1 x8_3).f2.f1) == ((rd_T23 ((rd_T74 l0_2 x6_1).f1) x7_2).f1))) = false := by simpa using c28))
                     (try (have c28b3 : ¬ (((rd_T97 l0_1 x8_3).f2.f0) = ((rd_T23 ((rd_T74 l0_2 x6_1).f1) x7_2).f0) && (((rd_T97 l0_1 x8_3).f2.f1) == ((rd_T23 ((rd_T74 l0_2 x6_1).f1) x7_2).f1))) := by simpa using c28))
                     clear c28
                     have H' := Aside0.mk H
                     clear H
                     have hnb34 := NB193_194.out
                     have hnc34 := NB194_193.out
                     obtain ⟨hcz35_0, hcz35_1, hcz35_2, hcz35_3, hfz35_0, hfz35_1, hfz35_2, hfz35_3⟩ := b4e BK193
                     have p200 : 0 ≤ (x8_3 : Int) := of_decide_eq_true asmS
                     have q200 : x8_3 < (l0_1.length : Int) := of_decide_eq_true asmS
                     obtain ⟨ad200, e200, hx200_0, hx200_1, hx200_2, hx200_3, hx200_4, hx200_5⟩ := at_T97 HR0_1.out x8_3 p200 q200
                     cases e200
                     replace hx200_0 := (HB.out.cell (World.block_lt_of_cell? w _ hx200_0)).trans hx200_0
                     replace hx200_1 := (HB.out.cell (World.block_lt_of_cell? w _ hx200_1)).trans hx200_1
                     replace hx200_2 := (HB.out.cell (World.block_lt_of_cell? w _ hx200_2)).trans hx200_2
                     replace hx200_3 := (HB.out.cell (World.block_lt_of_cell? w _ hx200_3)).trans hx200_3
                     replace hx200_4 := (HB.out.cell (World.block_lt_of_cell? w _ hx200_4)).trans hx200_4
                     replace hx200_5 := (HB.out.cell (World.block_lt_of_cell? w _ hx200_5)).trans hx200_5
                     replace p200 := eq_true p200
                     replace q200 := eq_true q200
                     obtain ⟨hcz36_0, hcz36_1, hfz36_0, hfz36_1⟩ := b2e BK194
                     have p201 : 0 ≤ (x8_3 : Int) := of_decide_eq_true asmS
                     have q201 : x8_3 < (l0_1.length : Int) := of_decide_eq_true asmS
                     obtain ⟨ad201, e201, hx201_0, hx201_1, hx201_2, hx201_3, hx201_4, hx201_5⟩ := at_T97 HR0_1.out x8_3 p201 q201
                     obtain rfl : ad200 = ad201 := (by injection e201)
                     replace hx201_0 := (HB.out.cell (World.block_lt_of_cell? w _ hx201_0)).trans hx201_0
                     replace hx201_1 := (HB.out.cell (World.block_lt_of_cell? w _ hx201_1)).trans hx201_1
                     replace hx201_2 := (HB.out.cell (World.block_lt_of_cell? w _ hx201_2)).trans hx201_2
                     replace hx201_3 := (HB.out.cell (World.block_lt_of_cell? w _ hx201_3)).trans hx201_3
                     replace hx201_4 := (HB.out.cell (World.block_lt_of_cell? w _ hx201_4)).trans hx201_4
                     replace hx201_5 := (HB.out.cell (World.block_lt_of_cell? w _ hx201_5)).trans hx201_5
                     replace p201 := eq_true p201
                     replace q201 := eq_true q201
                     have p202 : 0 ≤ (x6_1 : Int) := of_decide_eq_true asmS
                     have q202 : x6_1 < (l0_2.length : Int) := of_decide_eq_true asmS
                     obtain ⟨ad202, A202_2, c202_2, e202, hx202_0, hx202_1, hx202_2, hl202_2, hi202_2⟩ := at_T74 HR0_2.out x6_1 p202 q202
                     obtain rfl : ad198 = ad202 := (by injection e202)
                     replace hx202_0 := (HB.out.cell (World.block_lt_of_cell? w _ hx202_0)).trans hx202_0
                     replace hx202_1 := (HB.out.cell (World.block_lt_of_cell? w _ hx202_1)).trans hx202_1
                     replace hx202_2 := (HB.out.cell (World.block_lt_of_cell? w _ hx202_2)).trans hx202_2
                     have HR202_2 := Aside0.mk hi202_2
                     have HC202_2 := Aside0.mk hl202_2
                     clear hi202_2 hl202_2
                     replace p202 := eq_true p202
                     replace q202 := eq_true q202
                     have p203 : 0 ≤ (x7_2 : Int) := of_decide_eq_true asmS
                     have q203 : x7_2 < (((rd_T74 l0_2 x6_1).f1).length : Int) := of_decide_eq_true asmS
                     obtain ⟨ad203, e203, hx203_0, hx203_1⟩ := at_T23 HR202_2.out x7_2 p203 q203
                     cases e203
                     replace hx203_0 := (HB.out.cell (World.block_lt_of_cell? w _ hx203_0)).trans hx203_0
                     replace hx203_1 := (HB.out.cell (World.block_lt_of_cell? w _ hx203_1)).trans hx203_1
                     replace p203 := eq_true p203
                     replace q203 := eq_true q203
                     go_wp2
                     repeat (go_quiet (fail); try go_wp2)
                     go_roundg k3
                     case measure => have := HK1.out; have := HK2.out; have := HK3.out; omega
                     case rel => exact ⟨(x5_3), (wrap64 (x8_3 + 1)), (by first | rfl | (simp; done) | (simp [*]; done)), H', ⟨by have := HK1.out; have := HK2.out; have := HK3.out; omega⟩, ⟨by (with_reducible repeat (first | apply Kd.R_alloc | apply Kd.R_drewN | apply Kd.R_drew)); exact HO_5.out⟩, ⟨by (with_reducible repeat (first | refine blk_drewN ?_ _ | refine blk_drew ?_ | refine blk_alloc ?_ _)); exact BK193.out⟩, ⟨by (with_reducible repeat (first | refine blk_drewN ?_ _ | refine blk_drew ?_ | refine blk_alloc ?_ _)); exact BK194.out⟩, ⟨bS2 HB GE193 GE194⟩⟩
                   ·rw [if_neg c27] at H
                    exact absurd H (by simp)
                  ·rw [if_neg c26] at H
                   exact absurd H (by simp)
                 ·rw [if_neg c25] at H
                  exact absurd H (by simp)
                ·rw [if_neg c24] at H
                 exact absurd H (by simp)
               ·rw [if_neg c23] at H
                have c23b0 : (((rd_T97 l0_1 x8_3).f1.f0) == a1_0 && (((rd_T97 l0_1 x8_3).f1.f1) == a1_1)) = false := by simpa using c23
                (try (have c23b1 : decide (((rd_T97 l0_1 x8_3).f1.f0) = a1_0 && (((rd_T97 l0_1 x8_3).f1.f1) == a1_1)) = false := by simpa using c23))
                (try (have c23b2 : (((rd_T97 l0_1 x8_3).f1.f0) == a1_0 && (((rd_T97 l0_1 x8_3).f1.f1) == a1_1)) = false := by simpa using c23))
                (try (have c23b3 : ¬ (((rd_T97 l0_1 x8_3).f1.f0) = a1_0 && (((rd_T97 l0_1 x8_3).f1.f1) == a1_1)) := by simpa using c23))
                clear c23
                have H' := Aside0.mk H
                clear H
                have hnb37 := NB193_194.out
                have hnc37 := NB194_193.out
                obtain ⟨hcz38_0, hcz38_1, hcz38_2, hcz38_3, hfz38_0, hfz38_1, hfz38_2, hfz38_3⟩ := b4e BK193
                have p200 : 0 ≤ (x8_3 : Int) := of_decide_eq_true asmS
                have q200 : x8_3 < (l0_1.length : Int) := of_decide_eq_true asmS
                obtain ⟨ad200, e200, hx200_0, hx200_1, hx200_2, hx200_3, hx200_4, hx200_5⟩ := at_T97 HR0_1.out x8_3 p200 q200
                cases e200
                replace hx200_0 := (HB.out.cell (World.block_lt_of_cell? w _ hx200_0)).trans hx200_0
                replace hx200_1 := (HB.out.cell (World.block_lt_of_cell? w _ hx200_1)).trans hx200_1
                replace hx200_2 := (HB.out.cell (World.block_lt_of_cell? w _ hx200_2)).trans hx200_2
                replace hx200_3 := (HB.out.cell (World.block_lt_of_cell? w _ hx200_3)).trans hx200_3
                replace hx200_4 := (HB.out.cell (World.block_lt_of_cell? w _ hx200_4)).trans hx200_4
                replace hx200_5 := (HB.out.cell (World.block_lt_of_cell? w _ hx200_5)).trans hx200_5
                replace p200 := eq_true p200
                replace q200 := eq_true q200
                obtain ⟨hcz39_0, hcz39_1, hfz39_0, hfz39_1⟩ := b2e BK194
                go_wp2
                repeat (go_quiet (fail); try go_wp2)
                go_roundg k3
                case measure => have := HK1.out; have := HK2.out; have := HK3.out; omega
                case rel => exact ⟨(x5_3), (wrap64 (x8_3 + 1)), (by first | rfl | (simp; done) | (simp [*]; done)), H', ⟨by have := HK1.out; have := HK2.out; have := HK3.out; omega⟩, ⟨by (with_reducible repeat (first | apply Kd.R_alloc | apply Kd.R_drewN | apply Kd.R_drew)); exact HO_5.out⟩, ⟨by (with_reducible repeat (first | refine blk_drewN ?_ _ | refine blk_drew ?_ | refine blk_alloc ?_ _)); exact BK193.out⟩, ⟨by (with_reducible repeat (first | refine blk_drewN ?_ _ | refine blk_drew ?_ | refine blk_alloc ?_ _)); exact BK194.out⟩, ⟨bS2 HB GE193 GE194⟩⟩
              ·rw [if_neg c22] at H
               exact absurd H (by simp)
             ·rw [if_neg c21] at H
              have c21b0 : decide (x8_3 < (l0_1.length : Int)) = false := decide_eq_false c21
              clear c21
              have H' := Aside0.mk H
              clear H
              have hnb40 := NB193_194.out
              have hnc40 := NB194_193.out
              obtain ⟨hcz41_0, hcz41_1, hcz41_2, hcz41_3, hfz41_0, hfz41_1, hfz41_2, hfz41_3⟩ := b4e BK193
              go_wp2
              repeat (go_quiet (fail); try go_wp2)
              go_roundg k3
              case measure => have := HK1.out; have := HK2.out; have := HK3.out; omega
              case rel => exact ⟨(x5_3), (wrap64 (x7_2 + 1)), (by first | rfl | (simp; done) | (simp [*]; done)), H', ⟨by have := HK1.out; have := HK2.out; have := HK3.out; omega⟩, ⟨by (with_reducible repeat (first | apply Kd.R_alloc | apply Kd.R_drewN | apply Kd.R_drew)); exact HO_5.out⟩, ⟨by (with_reducible repeat (first | refine blk_drewN ?_ _ | refine blk_drew ?_ | refine blk_alloc ?_ _)); exact BK193.out⟩, ⟨by (with_reducible repeat (first | refine blk_drewN ?_ _ | refine blk_drew ?_ | refine blk_alloc ?_ _)); exact BK194.out⟩, ⟨bS2 HB GE193 GE194⟩⟩
          ·rw [if_neg c18] at H
           have c18b0 : decide (x7_2 < (((rd_T74 l0_2 x6_1).f1).length : Int)) = false := decide_eq_false c18
           clear c18
           obtain rfl := Option.some.inj H
           have hnb42 := NB193_194.out
           have hnc42 := NB194_193.out
           obtain ⟨hcz43_0, hcz43_1, hcz43_2, hcz43_3, hfz43_0, hfz43_1, hfz43_2, hfz43_3⟩ := b4e BK193
           have p199 : 0 ≤ (x6_1 : Int) := of_decide_eq_true asmS
           have q199 : x6_1 < (l0_2.length : Int) := of_decide_eq_true asmS
           obtain ⟨ad199, A199_2, c199_2, e199, hx199_0, hx199_1, hx199_2, hl199_2, hi199_2⟩ := at_T74 HR0_2.out x6_1 p199 q199
           obtain rfl : ad198 = ad199 := (by injection e199)
           replace hx199_0 := (HB.out.cell (World.block_lt_of_cell? w _ hx199_0)).trans hx199_0
           replace hx199_1 := (HB.out.cell (World.block_lt_of_cell? w _ hx199_1)).trans hx199_1
           replace hx199_2 := (HB.out.cell (World.block_lt_of_cell? w _ hx199_2)).trans hx199_2
           have HR199_2 := Aside0.mk hi199_2
           have HC199_2 := Aside0.mk hl199_2
           clear hi199_2 hl199_2
           replace p199 := eq_true p199
           replace q199 := eq_true q199
           go_wp2
           repeat (go_quiet (fail); try go_wp2)
           go_ret
           exact ⟨_, by first | rfl | (simp [errW_none, errW_some] <;> rfl) | (simp [*, errW_none, errW_some] <;> rfl), by (with_reducible repeat (first | apply Kd.R_alloc | apply Kd.R_drewN | apply Kd.R_drew)); exact Kd.R_mono HO_5.out (fun _ hk => trivial), bS2 HB GE193 GE194⟩
         ·rw [if_neg c17] at H
          exact absurd H (by simp)
        ·rw [if_neg c16] at H
         exact absurd H (by simp)
    ·rw [if_neg c8] at H
     exact absurd H (by simp)
   ·rw [if_neg c7] at H
    have c7b0 : decide (x6_1 < (l0_2.length : Int)) = false := decide_eq_false c7
    clear c7
    obtain rfl := Option.some.inj H
    have hnb44 := NB193_194.out
    have hnc44 := NB194_193.out
    obtain ⟨hcz45_0, hcz45_1, hcz45_2, hcz45_3, hfz45_0, hfz45_1, hfz45_2, hfz45_3⟩ := b4e BK193
    go_wp2
    repeat (go_quiet (fail); try go_wp2)
    go_ret
    exact ⟨_, by first | rfl | (simp [errW_none, errW_some] <;> rfl) | (simp [*, errW_none, errW_some] <;> rfl), by (with_reducible repeat (first | apply Kd.R_alloc | apply Kd.R_drewN | apply Kd.R_drew)); exact Kd.R_mono HO_5.out (fun _ hk => trivial), bS2 HB GE193 GE194⟩
end Go.Proofs.Ytnkbgimihikhoaa.PVt
