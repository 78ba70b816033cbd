/- Is any tree right: the law's contract. -/
import Derived.Test.YtnkbgimihikhoaaMVtO
namespace Go.Proofs.Ytnkbgimihikhoaa.PVt
open Go.RowKit Go.Proofs.YtnkbgimihikhoaaW.PrintWords Go.Proofs.YtnkbgimihikhoaaW.PrintLast Go.Proofs.YtnkbgimihikhoaaW.PrintMore
set_option linter.unusedVariables false
set_option linter.unusedSimpArgs false
def vck.T2 : Bool × List (List Nat × List Nat) := (true, [([], []), ([0], [0]), ([], []), ([2, 1], [2]), ([1, 3], [1, 3]), ([4, 3], [4]), ([5], [5]), ([5], [5]), ([6, 7, 5, 5], [5, 6, 7]), ([5, 8], [5, 8]), ([9, 8], [9]), ([10, 10], [10]), ([10, 11], [10, 11]), ([12, 11, 0, 1, 2, 3, 4, 5, 6, 7, 8, 9, 10, 11, 12], [12])])
def vck.B2 : List Nat := [0, 1, 0, 7, 15, 31, 63, 63, 255, 511, 1023, 2047, 4095, 8191]
theorem vck.tab2 : rtab .any (opsOf Try.f3 2) = vck.T2 := by kernel_rfl
theorem vck.bits2 : waitsOk vck.T2.2 vck.B2 = true := by kernel_rfl
set_option maxHeartbeats 8000000 in
set_option maxRecDepth 100000 in
theorem checks_calls (w : World) (x : S27) (A4 : Option Addr) (c4 : Nat) (A5 : Option Addr) (c5 : Nat) (hx : RK w x A4 c4 A5 c5) (hf : fitT x) (hs : szT x ≤ 1048576) :
    Calls Try.prog 3 #[.agg #[.int .i64 x.f0.f0, .int .i64 x.f0.f1, .string x.f1, .string x.f2, .slice A4 x.f3.length c4, .slice A5 x.f4.length c5]] w fun e w' => e = .returned (.bool true) ∧ Below w.heap.size w w' := by
  have hB := below_alloc (Below.refl w.heap.size w) (.cells #[.int .i64 x.f0.f0, .int .i64 x.f0.f1, .string x.f1, .string x.f2, .slice A4 x.f3.length c4, .slice A5 x.f4.length c5] 27)
  have HRX0 := Aside0.mk (hx.below hB)
  have HX0 : Aside0 ((w.alloc (.cells #[.int .i64 x.f0.f0, .int .i64 x.f0.f1, .string x.f1, .string x.f2, .slice A4 x.f3.length c4, .slice A5 x.f4.length c5] 27)).heap[w.heap.size]? = some (.cells #[.int .i64 x.f0.f0, .int .i64 x.f0.f1, .string x.f1, .string x.f2, .slice A4 x.f3.length c4, .slice A5 x.f4.length c5] 27 (0, 0))) := ⟨Mem.alloc_new _ _⟩
  have HB0 := Aside0.mk hB
  have HF := Aside0.mk hf
  have HSZ : Aside0 (szT x ≤ 1099511627776) := ⟨by omega⟩
  have HRM : Aside0 (Room 0 (szT x)) := ⟨by unfold Room; omega⟩
  clear hx hB hf hs
  go_enter Try.func3, Try.ntmps3
  go_wp2_with (fail)
  refine (rcopyM_calls _ x _ _ _ _ HRX0.out HF.out).mono ?_
  rintro e w1 ⟨B4, e4, B5, e5, rfl, hM1, hb1⟩
  dsimp only
  have HBU := Aside0.mk (HB0.out.trans ((below_alloc hb1 (.cells #[.int .i64 x.f0.f0, .int .i64 x.f0.f1, .string x.f1, .string x.f2, .slice B4 x.f3.length e4, .slice B5 x.f4.length e5] 27)).mono HB0.out.size))
  have HRX : Aside0 (RK (w1.alloc (.cells #[.int .i64 x.f0.f0, .int .i64 x.f0.f1, .string x.f1, .string x.f2, .slice B4 x.f3.length e4, .slice B5 x.f4.length e5] 27)) x A4 c4 A5 c5) := ⟨HRX0.out.below (below_alloc hb1 _)⟩
  have HRO : Aside0 (RK (w1.alloc (.cells #[.int .i64 x.f0.f0, .int .i64 x.f0.f1, .string x.f1, .string x.f2, .slice B4 x.f3.length e4, .slice B5 x.f4.length e5] 27)) x B4 e4 B5 e5) := ⟨(RK.of (k27.K_of_M hM1)).below (below_alloc (Below.refl _ _) _)⟩
  have HX : Aside0 ((w1.alloc (.cells #[.int .i64 x.f0.f0, .int .i64 x.f0.f1, .string x.f1, .string x.f2, .slice B4 x.f3.length e4, .slice B5 x.f4.length e5] 27)).heap[w.heap.size]? = some (.cells #[.int .i64 x.f0.f0, .int .i64 x.f0.f1, .string x.f1, .string x.f2, .slice A4 x.f3.length c4, .slice A5 x.f4.length c5] 27 (0, 0))) := ⟨((below_alloc hb1 _).block _ (blk_lt HX0.out)).trans HX0.out⟩
  have HY : Aside0 ((w1.alloc (.cells #[.int .i64 x.f0.f0, .int .i64 x.f0.f1, .string x.f1, .string x.f2, .slice B4 x.f3.length e4, .slice B5 x.f4.length e5] 27)).heap[w1.heap.size]? = some (.cells #[.int .i64 x.f0.f0, .int .i64 x.f0.f1, .string x.f1, .string x.f2, .slice B4 x.f3.length e4, .slice B5 x.f4.length e5] 27 (0, 0))) := ⟨Mem.alloc_new _ _⟩
  clear HB0 HRX0 HX0 hM1 hb1
  go_wp2_with (fail)
  generalize (w1.alloc (.cells #[.int .i64 x.f0.f0, .int .i64 x.f0.f1, .string x.f1, .string x.f2, .slice B4 x.f3.length e4, .slice B5 x.f4.length e5] 27)) = U at *
  obtain ⟨r, hr⟩ : ∃ r, checkP x = r := ⟨_, rfl⟩
  have HCR := Aside0.mk hr
  have hrr : (r == r) = true := beq_self_eq_true r
  clear hr
  have HBQ : Aside0 (Below U.heap.size U U.drew) := ⟨below_drew (Below.refl _ _)⟩
  have HS : Aside0 ((U.drew.cell? ⟨w.heap.size, 0, none⟩ = some (.int .i64 x.f0.f0) ∧ U.drew.cell? ⟨w.heap.size, 1, none⟩ = some (.int .i64 x.f0.f1) ∧ U.drew.cell? ⟨w.heap.size, 2, none⟩ = some (.string x.f1) ∧ U.drew.cell? ⟨w.heap.size, 3, none⟩ = some (.string x.f2) ∧ U.drew.cell? ⟨w.heap.size, 4, none⟩ = some (.slice A4 x.f3.length c4) ∧ U.drew.cell? ⟨w.heap.size, 5, none⟩ = some (.slice A5 x.f4.length c5)) ∧ (U.drew.cell? ⟨w1.heap.size, 0, none⟩ = some (.int .i64 x.f0.f0) ∧ U.drew.cell? ⟨w1.heap.size, 1, none⟩ = some (.int .i64 x.f0.f1) ∧ U.drew.cell? ⟨w1.heap.size, 2, none⟩ = some (.string x.f1) ∧ U.drew.cell? ⟨w1.heap.size, 3, none⟩ = some (.string x.f2) ∧ U.drew.cell? ⟨w1.heap.size, 4, none⟩ = some (.slice B4 x.f3.length e4) ∧ U.drew.cell? ⟨w1.heap.size, 5, none⟩ = some (.slice B5 x.f4.length e5))) := ⟨cells_now HX.out HBQ.out, cells_now HY.out HBQ.out⟩
  refine start_ (n := 14) (S := (fun w' => (w'.cell? ⟨w.heap.size, 0, none⟩ = some (.int .i64 x.f0.f0) ∧ w'.cell? ⟨w.heap.size, 1, none⟩ = some (.int .i64 x.f0.f1) ∧ w'.cell? ⟨w.heap.size, 2, none⟩ = some (.string x.f1) ∧ w'.cell? ⟨w.heap.size, 3, none⟩ = some (.string x.f2) ∧ w'.cell? ⟨w.heap.size, 4, none⟩ = some (.slice A4 x.f3.length c4) ∧ w'.cell? ⟨w.heap.size, 5, none⟩ = some (.slice A5 x.f4.length c5)) ∧ (w'.cell? ⟨w1.heap.size, 0, none⟩ = some (.int .i64 x.f0.f0) ∧ w'.cell? ⟨w1.heap.size, 1, none⟩ = some (.int .i64 x.f0.f1) ∧ w'.cell? ⟨w1.heap.size, 2, none⟩ = some (.string x.f1) ∧ w'.cell? ⟨w1.heap.size, 3, none⟩ = some (.string x.f2) ∧ w'.cell? ⟨w1.heap.size, 4, none⟩ = some (.slice B4 x.f3.length e4) ∧ w'.cell? ⟨w1.heap.size, 5, none⟩ = some (.slice B5 x.f4.length e5)))) (ds := []) #[false, false, false, false, false, false, false, false, false, false, false, false, false, false] (by kernel_rfl) rfl rfl (HS.out) (fun hHeld => ?_)
  refine with_tabW vck.tab2 vck.bits2 (fun HT_ HW_ => ?_)
  refine take_ (i := 0) (N := (some 6)) (v := ?_) (a' := ?_) #[true, false, false, false, false, false, false, false, false, false, false, false, false, false] rfl rfl (take_ofW HT_.out HW_.out (by kernel_rfl)) (fun _ _ _ h => h) (Or.inl ⟨by rfl, ?_⟩) hHeld ?_ ?_
  rotate_left
  · rintro w' ⟨⟨s0, s1, s2, s3, s4, s5⟩, u0, u1, u2, u3, u4, u5⟩
    go_simp
    with_reducible rfl
  rotate_left
  · simp only [Act.put, List.setIfInBounds_toArray, List.set_cons_zero, List.set_cons_succ, i64_w, i32_w]
    rfl
  refine take_ (i := 2) (N := (some 8)) (v := ?_) (a' := ?_) #[true, false, true, false, false, false, false, false, false, false, false, false, false, false] rfl rfl (take_ofW HT_.out HW_.out (by kernel_rfl)) (fun _ _ _ h => h) (Or.inl ⟨by rfl, ?_⟩) hHeld ?_ ?_
  rotate_left
  · rintro w' ⟨⟨s0, s1, s2, s3, s4, s5⟩, u0, u1, u2, u3, u4, u5⟩
    go_simp
    with_reducible rfl
  rotate_left
  · simp only [Act.put, List.setIfInBounds_toArray, List.set_cons_zero, List.set_cons_succ, i64_w, i32_w]
    rfl
  refine one_ (i := 1) (N := (some 7)) #[true, true, true, false, false, false, false, false, false, false, false, false, false, false] rfl rfl (one_of HT_.out (by kernel_rfl)) (by decide) (fun K hK => ?_)
  refine goes_ Try.func12 (by kernel_rfl) rfl #[.agg #[.int .i64 x.f0.f0, .int .i64 x.f0.f1, .string x.f1, .string x.f2, .slice B4 x.f3.length e4, .slice B5 x.f4.length e5]] (by rfl) rfl rfl (by (try simp only [List.map_toArray, List.map_cons, List.map_nil]); first | done | rfl) ?_
  refine (check_calls _ x _ _ _ _ HSZ.out (TK.of (HRO.out.below HBQ.out).K)).mono ?_
  rintro e w3 ⟨rfl, hb3⟩
  rw [HCR.out]
  refine ⟨_, rfl, ?_⟩
  have HBN : Aside0 (Below U.heap.size U w3) := ⟨HBQ.out.trans (hb3.mono HBQ.out.size)⟩
  clear HBQ hb3
  have HBQ := HBN
  clear HBN
  refine hK.out _ _ (⟨cells_now (HX.out) HBQ.out, cells_now HY.out HBQ.out⟩) (fun hHeld => ?_)
  clear hK K
  refine norm_ (a' := ?_) ?_ ?_
  rotate_left
  · show Act.put _ (some 7) _ = _
    simp only [Act.put, List.setIfInBounds_toArray, List.set_cons_zero, List.set_cons_succ, i64_w, i32_w]
    rfl
  refine one_ (i := 3) (N := (some 9)) #[true, true, true, true, false, false, false, false, false, false, false, false, false, false] rfl rfl (one_of HT_.out (by kernel_rfl)) (by decide) (fun K hK => ?_)
  refine goes_ Try.func13 (by kernel_rfl) rfl #[.agg #[.int .i64 x.f0.f0, .int .i64 x.f0.f1, .string x.f1, .string x.f2, .slice A4 x.f3.length c4, .slice A5 x.f4.length c5]] (by rfl) rfl rfl (by (try simp only [List.map_toArray, List.map_cons, List.map_nil]); first | done | rfl) ?_
  refine (rcheck_calls _ _ x _ _ _ _ (TK.of (HRX.out.below HBQ.out).K) (Nat.le_refl _) HRM.out HF.out).mono ?_
  rintro e w4 ⟨rfl, hb3⟩
  rw [HCR.out]
  refine ⟨_, rfl, ?_⟩
  have HBN : Aside0 (Below U.heap.size U w4) := ⟨HBQ.out.trans (hb3.mono HBQ.out.size)⟩
  clear HBQ hb3
  have HBQ := HBN
  clear HBN
  refine hK.out _ _ (⟨cells_now (HX.out) HBQ.out, cells_now HY.out HBQ.out⟩) (fun hHeld => ?_)
  clear hK K
  refine norm_ (a' := ?_) ?_ ?_
  rotate_left
  · show Act.put _ (some 9) _ = _
    simp only [Act.put, List.setIfInBounds_toArray, List.set_cons_zero, List.set_cons_succ, i64_w, i32_w]
    rfl
  refine pure_ (i := 4) (N := (some 10)) (v := ?_) (a' := ?_) #[true, true, true, true, true, false, false, false, false, false, false, false, false, false] rfl rfl (any_of HT_.out (by kernel_rfl)) (fun _ _ _ h => h) (Or.inl ⟨by rfl, ?_⟩) ?_ ?_
  rotate_left
  · intro w'
    go_simp
    with_reducible rfl
  rotate_left
  · simp only [Act.put, List.setIfInBounds_toArray, List.set_cons_zero, List.set_cons_succ, i64_w, i32_w]
    rfl
  refine pure_ (i := 5) (N := (some 11)) (v := ?_) (a' := ?_) #[true, true, true, true, true, true, false, false, false, false, false, false, false, false] rfl rfl (any_of HT_.out (by kernel_rfl)) (fun _ _ _ h => h) (Or.inl ⟨by rfl, ?_⟩) ?_ ?_
  rotate_left
  · intro w'
    go_simp
    with_reducible rfl
  rotate_left
  · simp only [Act.put, List.setIfInBounds_toArray, List.set_cons_zero, List.set_cons_succ, i64_w, i32_w]
    rfl
  refine take_ (i := 6) (N := (some 12)) (v := ?_) (a' := ?_) #[true, true, true, true, true, true, true, false, false, false, false, false, false, false] rfl rfl (take_ofW HT_.out HW_.out (by kernel_rfl)) (fun _ _ _ h => h) (Or.inl ⟨by rfl, ?_⟩) hHeld ?_ ?_
  rotate_left
  · rintro w' ⟨⟨s0, s1, s2, s3, s4, s5⟩, u0, u1, u2, u3, u4, u5⟩
    go_simp
    with_reducible rfl
  rotate_left
  · simp only [Act.put, List.setIfInBounds_toArray, List.set_cons_zero, List.set_cons_succ, i64_w, i32_w]
    rfl
  refine take_ (i := 7) (N := (some 13)) (v := ?_) (a' := ?_) #[true, true, true, true, true, true, true, true, false, false, false, false, false, false] rfl rfl (take_ofW HT_.out HW_.out (by kernel_rfl)) (fun _ _ _ h => h) (Or.inl ⟨by rfl, ?_⟩) hHeld ?_ ?_
  rotate_left
  · rintro w' ⟨⟨s0, s1, s2, s3, s4, s5⟩, u0, u1, u2, u3, u4, u5⟩
    go_simp
    with_reducible rfl
  rotate_left
  · simp only [Act.put, List.setIfInBounds_toArray, List.set_cons_zero, List.set_cons_succ, i64_w, i32_w]
    rfl
  refine one_ (i := 8) (N := (some 14)) #[true, true, true, true, true, true, true, true, true, false, false, false, false, false] rfl rfl (one_of HT_.out (by kernel_rfl)) (by decide) (fun K hK => ?_)
  refine goes_ Try.func14 (by kernel_rfl) rfl #[.agg #[.int .i64 x.f0.f0, .int .i64 x.f0.f1, .string x.f1, .string x.f2, .slice B4 x.f3.length e4, .slice B5 x.f4.length e5], .agg #[.int .i64 x.f0.f0, .int .i64 x.f0.f1, .string x.f1, .string x.f2, .slice A4 x.f3.length c4, .slice A5 x.f4.length c5]] (by rfl) rfl rfl (by (try simp only [List.map_toArray, List.map_cons, List.map_nil]); first | done | rfl) ?_
  refine (rsame_calls _ x x _ _ _ _ _ _ _ _ (HRO.out.below HBQ.out) (HRX.out.below HBQ.out) HF.out).mono ?_
  rintro e w5 ⟨rfl, hb3⟩
  rw [eqT_self]
  refine ⟨_, rfl, ?_⟩
  have HBN : Aside0 (Below U.heap.size U w5) := ⟨HBQ.out.trans (hb3.mono HBQ.out.size)⟩
  clear HBQ hb3
  have HBQ := HBN
  clear HBN
  refine hK.out _ _ (⟨cells_now (HX.out) HBQ.out, cells_now HY.out HBQ.out⟩) (fun hHeld => ?_)
  clear hK K
  refine norm_ (a' := ?_) ?_ ?_
  rotate_left
  · show Act.put _ (some 14) _ = _
    simp only [Act.put, List.setIfInBounds_toArray, List.set_cons_zero, List.set_cons_succ, i64_w, i32_w]
    rfl
  refine pure_ (i := 9) (N := (some 15)) (v := ?_) (a' := ?_) #[true, true, true, true, true, true, true, true, true, true, false, false, false, false] rfl rfl (any_of HT_.out (by kernel_rfl)) (fun _ _ _ h => h) (Or.inl ⟨by rfl, ?_⟩) ?_ ?_
  rotate_left
  · intro w'
    go_simp
    with_reducible rfl
  rotate_left
  · simp only [Act.put, List.setIfInBounds_toArray, List.set_cons_zero, List.set_cons_succ, i64_w, i32_w]
    rfl
  refine pure_ (i := 10) (N := (some 16)) (v := ?_) (a' := ?_) #[true, true, true, true, true, true, true, true, true, true, true, false, false, false] rfl rfl (any_of HT_.out (by kernel_rfl)) (fun _ _ _ h => h) (Or.inl ⟨by rfl, ?_⟩) ?_ ?_
  rotate_left
  · intro w'
    go_simp
    with_reducible rfl
  rotate_left
  · simp only [Act.put, List.setIfInBounds_toArray, List.set_cons_zero, List.set_cons_succ, i64_w, i32_w]
    rfl
  refine one_ (i := 11) (N := (some 17)) #[true, true, true, true, true, true, true, true, true, true, true, true, false, false] rfl rfl (one_of HT_.out (by kernel_rfl)) (by decide) (fun K hK => ?_)
  refine goes_ Try.func15 (by kernel_rfl) rfl #[] (by rfl) rfl rfl (by (try simp only [List.map_toArray, List.map_cons, List.map_nil]); first | done | rfl) ?_
  refine (awake_calls _).mono ?_
  rintro e w6 ⟨rfl, hb3⟩
  refine ⟨_, rfl, ?_⟩
  have HBN : Aside0 (Below U.heap.size U w6) := ⟨HBQ.out.trans (hb3.mono HBQ.out.size)⟩
  clear HBQ hb3
  have HBQ := HBN
  clear HBN
  refine hK.out _ _ (⟨cells_now (HX.out) HBQ.out, cells_now HY.out HBQ.out⟩) (fun hHeld => ?_)
  clear hK K
  refine norm_ (a' := ?_) ?_ ?_
  rotate_left
  · show Act.put _ (some 17) _ = _
    simp only [Act.put, List.setIfInBounds_toArray, List.set_cons_zero, List.set_cons_succ, i64_w, i32_w]
    rfl
  refine pure_ (i := 12) (N := (some 18)) (v := ?_) (a' := ?_) #[true, true, true, true, true, true, true, true, true, true, true, true, true, false] rfl rfl (any_of HT_.out (by kernel_rfl)) (fun _ _ _ h => h) (Or.inl ⟨by rfl, ?_⟩) ?_ ?_
  rotate_left
  · intro w'
    go_simp
    with_reducible rfl
  rotate_left
  · simp only [Act.put, List.setIfInBounds_toArray, List.set_cons_zero, List.set_cons_succ, i64_w, i32_w]
    rfl
  refine pure_ (i := 13) (N := (some 2)) (v := ?_) (a' := ?_) #[true, true, true, true, true, true, true, true, true, true, true, true, true, true] rfl rfl (any_of HT_.out (by kernel_rfl)) (fun _ _ _ h => h) (Or.inl ⟨by rfl, ?_⟩) ?_ ?_
  rotate_left
  · intro w'
    go_simp
    with_reducible rfl
  rotate_left
  · simp only [Act.put, List.setIfInBounds_toArray, List.set_cons_zero, List.set_cons_succ, i64_w, i32_w]
    rfl
  refine done_ (done_of HT_.out (by kernel_rfl)) ?_
  go_wp2
  go_ret
  exact ⟨rfl, HBU.out.trans (HBQ.out.mono HBU.out.size)⟩
end Go.Proofs.Ytnkbgimihikhoaa.PVt
