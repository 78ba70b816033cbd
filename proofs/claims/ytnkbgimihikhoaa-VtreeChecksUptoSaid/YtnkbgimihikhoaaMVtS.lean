/- Which trees are the same: the law's contract. -/
import Derived.Test.YtnkbgimihikhoaaMVtR
namespace Go.Proofs.Ytnkbgimihikhoaa.PVt
open Go.RowKit Go.Proofs.YtnkbgimihikhoaaW.PrintWords Go.Proofs.YtnkbgimihikhoaaW.PrintLast Go.Proofs.YtnkbgimihikhoaaW.PrintMore
set_option linter.unusedVariables false
set_option linter.unusedSimpArgs false
theorem rcopy_calls (w : World) (x : S27) (A4 : Option Addr) (c4 : Nat) (A5 : Option Addr) (c5 : Nat) (hx : RK w x A4 c4 A5 c5) (hf : fitT x) :
    Calls Try.prog 11 #[.agg #[.int .i64 x.f0.f0, .int .i64 x.f0.f1, .string x.f1, .string x.f2, .slice A4 x.f3.length c4, .slice A5 x.f4.length c5]] w fun e w' => ∃ B4 e4 B5 e5, e = .returned (.agg #[.int .i64 x.f0.f0, .int .i64 x.f0.f1, .string x.f1, .string x.f2, .slice B4 x.f3.length e4, .slice B5 x.f4.length e5]) ∧ RK w' x B4 e4 B5 e5 ∧ Below w.heap.size w w' :=
  (topiaryref15_Copy.calls (wtT x) _ _ _ _ A4 c4 x.f3 A5 c5 x.f4 _ _ _ _ _ _ w hx.2.1 hx.1 hx.2.2.2 hx.2.2.1 (rcopy_f (szT x) x (wtT x) (Nat.le_refl _) hf (Nat.le_refl _))).mono fun e w' ⟨v4, v5, he, h4, h5, hB⟩ => by
    obtain ⟨B4, e4, rfl⟩ := Kd.R_slice h4
    obtain ⟨B5, e5, rfl⟩ := Kd.R_slice h5
    exact ⟨B4, e4, B5, e5, he, ⟨(Kd.R_reads' h4).2.1, (Kd.R_reads' h4).2.2, (Kd.R_reads' h5).2.1, (Kd.R_reads' h5).2.2⟩, hB⟩
def vsm.T1 : Bool × List (List Nat × List Nat) := (true, [([], []), ([], []), ([0, 1], [0, 1]), ([], []), ([], []), ([3, 4, 2], [3, 4]), ([2, 5], [2, 5]), ([6, 5], [6]), ([7], [7]), ([7], [7]), ([9, 7, 7], [7, 9]), ([8, 10, 10, 7], [7, 8, 10]), ([7, 11], [7, 11]), ([12, 11], [12]), ([13, 13], [13]), ([13, 14], [13, 14]), ([15, 14, 0, 1, 2, 3, 4, 5, 6, 7, 8, 9, 10, 11, 12, 13, 14, 15], [15])])
def vsm.B1 : List Nat := [0, 0, 3, 0, 0, 31, 63, 127, 255, 255, 767, 2047, 4095, 8191, 16383, 32767, 65535]
theorem vsm.tab1 : rtab .any (opsOf Try.f8 1) = vsm.T1 := by kernel_rfl
theorem vsm.bits1 : waitsOk vsm.T1.2 vsm.B1 = true := by kernel_rfl
theorem same_self (w : World) (x : S27) (A4 : Option Addr) (c4 : Nat) (A5 : Option Addr) (c5 : Nat) (B4 : Option Addr) (e4 : Nat) (B5 : Option Addr) (e5 : Nat) (hx : RK w x A4 c4 A5 c5) (hy : RK w x B4 e4 B5 e5) :
    Calls Try.prog 31 #[.agg #[.int .i64 x.f0.f0, .int .i64 x.f0.f1, .string x.f1, .string x.f2, .slice A4 x.f3.length c4, .slice A5 x.f4.length c5], .agg #[.int .i64 x.f0.f0, .int .i64 x.f0.f1, .string x.f1, .string x.f2, .slice B4 x.f3.length e4, .slice B5 x.f4.length e5]] w fun e w' => e = .returned (.bool true) ∧ Below w.heap.size w w' := by
  have h := same_calls (szT x) x x A4 c4 A5 c5 B4 e4 B5 e5 w (Nat.le_refl _) hx hy
  rw [eqT_self] at h
  exact h
/-- A box of a node, read in a world that came later. -/
theorem cells_now {U w : World} {b : Nat} {v0 v1 v2 v3 v4 v5 : Value} (h : U.heap[b]? = some (.cells #[v0, v1, v2, v3, v4, v5] 27 (0, 0))) (hb : Below U.heap.size U w) :
    w.cell? ⟨b, 0, none⟩ = some v0 ∧ w.cell? ⟨b, 1, none⟩ = some v1 ∧ w.cell? ⟨b, 2, none⟩ = some v2 ∧ w.cell? ⟨b, 3, none⟩ = some v3 ∧ w.cell? ⟨b, 4, none⟩ = some v4 ∧ w.cell? ⟨b, 5, none⟩ = some v5 := by
  have h' := (hb.block b (blk_lt h)).trans h
  exact ⟨Mem.cell_of h' 0, Mem.cell_of h' 1, Mem.cell_of h' 2, Mem.cell_of h' 3, Mem.cell_of h' 4, Mem.cell_of h' 5⟩
set_option maxHeartbeats 8000000 in
set_option maxRecDepth 100000 in
theorem sames_calls (w : World) (x y : S27) (A4 : Option Addr) (c4 : Nat) (A5 : Option Addr) (c5 : Nat) (B4 : Option Addr) (e4 : Nat) (B5 : Option Addr) (e5 : Nat) (hx : RK w x A4 c4 A5 c5) (hy : RK w y B4 e4 B5 e5) (hf : fitT x) :
    Calls Try.prog 8 #[.agg #[.int .i64 x.f0.f0, .int .i64 x.f0.f1, .string x.f1, .string x.f2, .slice A4 x.f3.length c4, .slice A5 x.f4.length c5], .agg #[.int .i64 y.f0.f0, .int .i64 y.f0.f1, .string y.f1, .string y.f2, .slice B4 y.f3.length e4, .slice B5 y.f4.length e5]] w fun e w' => e = .returned (.bool true) ∧ Below w.heap.size w w' := by
  have hB := below_alloc (below_alloc (Below.refl w.heap.size w) (.cells #[.int .i64 x.f0.f0, .int .i64 x.f0.f1, .string x.f1, .string x.f2, .slice A4 x.f3.length c4, .slice A5 x.f4.length c5] 27)) (.cells #[.int .i64 y.f0.f0, .int .i64 y.f0.f1, .string y.f1, .string y.f2, .slice B4 y.f3.length e4, .slice B5 y.f4.length e5] 27)
  have HRX := Aside0.mk (hx.below hB)
  have HRY := Aside0.mk (hy.below hB)
  have HX : Aside0 (((w.alloc (.cells #[.int .i64 x.f0.f0, .int .i64 x.f0.f1, .string x.f1, .string x.f2, .slice A4 x.f3.length c4, .slice A5 x.f4.length c5] 27)).alloc (.cells #[.int .i64 y.f0.f0, .int .i64 y.f0.f1, .string y.f1, .string y.f2, .slice B4 y.f3.length e4, .slice B5 y.f4.length e5] 27)).heap[w.heap.size]? = some (.cells #[.int .i64 x.f0.f0, .int .i64 x.f0.f1, .string x.f1, .string x.f2, .slice A4 x.f3.length c4, .slice A5 x.f4.length c5] 27 (0, 0))) := ⟨Mem.alloc_old (Mem.alloc_new _ _) _⟩
  have HY : Aside0 (((w.alloc (.cells #[.int .i64 x.f0.f0, .int .i64 x.f0.f1, .string x.f1, .string x.f2, .slice A4 x.f3.length c4, .slice A5 x.f4.length c5] 27)).alloc (.cells #[.int .i64 y.f0.f0, .int .i64 y.f0.f1, .string y.f1, .string y.f2, .slice B4 y.f3.length e4, .slice B5 y.f4.length e5] 27)).heap[w.heap.size + 1]? = some (.cells #[.int .i64 y.f0.f0, .int .i64 y.f0.f1, .string y.f1, .string y.f2, .slice B4 y.f3.length e4, .slice B5 y.f4.length e5] 27 (0, 0))) := ⟨Mem.alloc_new_at _ _ _ (by rw [Mem.alloc_size])⟩
  have HB0 := Aside0.mk hB
  have HFX := Aside0.mk hf
  clear hx hy hB hf
  go_enter Try.func8, Try.ntmps8
  go_wp2_with (fail)
  generalize ((w.alloc (.cells #[.int .i64 x.f0.f0, .int .i64 x.f0.f1, .string x.f1, .string x.f2, .slice A4 x.f3.length c4, .slice A5 x.f4.length c5] 27)).alloc (.cells #[.int .i64 y.f0.f0, .int .i64 y.f0.f1, .string y.f1, .string y.f2, .slice B4 y.f3.length e4, .slice B5 y.f4.length e5] 27)) = U at *
  have HBQ : Aside0 (Below U.heap.size U U.drew) := ⟨below_drew (Below.refl _ _)⟩
  have HS : Aside0 ((U.drew.cell? ⟨w.heap.size, 0, none⟩ = some (.int .i64 x.f0.f0) ∧ U.drew.cell? ⟨w.heap.size, 1, none⟩ = some (.int .i64 x.f0.f1) ∧ U.drew.cell? ⟨w.heap.size, 2, none⟩ = some (.string x.f1) ∧ U.drew.cell? ⟨w.heap.size, 3, none⟩ = some (.string x.f2) ∧ U.drew.cell? ⟨w.heap.size, 4, none⟩ = some (.slice A4 x.f3.length c4) ∧ U.drew.cell? ⟨w.heap.size, 5, none⟩ = some (.slice A5 x.f4.length c5)) ∧ (U.drew.cell? ⟨w.heap.size + 1, 0, none⟩ = some (.int .i64 y.f0.f0) ∧ U.drew.cell? ⟨w.heap.size + 1, 1, none⟩ = some (.int .i64 y.f0.f1) ∧ U.drew.cell? ⟨w.heap.size + 1, 2, none⟩ = some (.string y.f1) ∧ U.drew.cell? ⟨w.heap.size + 1, 3, none⟩ = some (.string y.f2) ∧ U.drew.cell? ⟨w.heap.size + 1, 4, none⟩ = some (.slice B4 y.f3.length e4) ∧ U.drew.cell? ⟨w.heap.size + 1, 5, none⟩ = some (.slice B5 y.f4.length e5))) := ⟨⟨cells_now HX.out HBQ.out, cells_now HY.out HBQ.out⟩⟩
  refine start_ (n := 17) (S := (fun w' => (w'.cell? ⟨w.heap.size, 0, none⟩ = some (.int .i64 x.f0.f0) ∧ w'.cell? ⟨w.heap.size, 1, none⟩ = some (.int .i64 x.f0.f1) ∧ w'.cell? ⟨w.heap.size, 2, none⟩ = some (.string x.f1) ∧ w'.cell? ⟨w.heap.size, 3, none⟩ = some (.string x.f2) ∧ w'.cell? ⟨w.heap.size, 4, none⟩ = some (.slice A4 x.f3.length c4) ∧ w'.cell? ⟨w.heap.size, 5, none⟩ = some (.slice A5 x.f4.length c5)) ∧ (w'.cell? ⟨w.heap.size + 1, 0, none⟩ = some (.int .i64 y.f0.f0) ∧ w'.cell? ⟨w.heap.size + 1, 1, none⟩ = some (.int .i64 y.f0.f1) ∧ w'.cell? ⟨w.heap.size + 1, 2, none⟩ = some (.string y.f1) ∧ w'.cell? ⟨w.heap.size + 1, 3, none⟩ = some (.string y.f2) ∧ w'.cell? ⟨w.heap.size + 1, 4, none⟩ = some (.slice B4 y.f3.length e4) ∧ w'.cell? ⟨w.heap.size + 1, 5, none⟩ = some (.slice B5 y.f4.length e5)))) (ds := []) #[false, false, false, false, false, false, false, false, false, false, false, false, false, false, false, false, false] (by kernel_rfl) rfl rfl (HS.out) (fun hHeld => ?_)
  refine with_tabW vsm.tab1 vsm.bits1 (fun HT_ HW_ => ?_)
  refine take_ (i := 0) (N := (some 5)) (v := ?_) (a' := ?_) #[true, false, false, false, false, false, false, false, false, false, false, false, false, false, false, false, false] rfl rfl (take_ofW HT_.out HW_.out (by kernel_rfl)) (fun _ _ _ h => h) (Or.inl ⟨by rfl, ?_⟩) hHeld ?_ ?_
  rotate_left
  · rintro w' ⟨⟨s0, s1, s2, s3, s4, s5⟩, u0, u1, u2, u3, u4, u5⟩
    go_simp
    with_reducible rfl
  rotate_left
  · simp only [Act.put, List.setIfInBounds_toArray, List.set_cons_zero, List.set_cons_succ, i64_w, i32_w]
    rfl
  refine take_ (i := 1) (N := (some 6)) (v := ?_) (a' := ?_) #[true, true, false, false, false, false, false, false, false, false, false, false, false, false, false, false, false] rfl rfl (take_ofW HT_.out HW_.out (by kernel_rfl)) (fun _ _ _ h => h) (Or.inl ⟨by rfl, ?_⟩) hHeld ?_ ?_
  rotate_left
  · rintro w' ⟨⟨s0, s1, s2, s3, s4, s5⟩, u0, u1, u2, u3, u4, u5⟩
    go_simp
    with_reducible rfl
  rotate_left
  · simp only [Act.put, List.setIfInBounds_toArray, List.set_cons_zero, List.set_cons_succ, i64_w, i32_w]
    rfl
  refine take_ (i := 3) (N := (some 8)) (v := ?_) (a' := ?_) #[true, true, false, true, false, false, false, false, false, false, false, false, false, false, false, false, false] rfl rfl (take_ofW HT_.out HW_.out (by kernel_rfl)) (fun _ _ _ h => h) (Or.inl ⟨by rfl, ?_⟩) hHeld ?_ ?_
  rotate_left
  · rintro w' ⟨⟨s0, s1, s2, s3, s4, s5⟩, u0, u1, u2, u3, u4, u5⟩
    go_simp
    with_reducible rfl
  rotate_left
  · simp only [Act.put, List.setIfInBounds_toArray, List.set_cons_zero, List.set_cons_succ, i64_w, i32_w]
    rfl
  refine take_ (i := 4) (N := (some 9)) (v := ?_) (a' := ?_) #[true, true, false, true, true, false, false, false, false, false, false, false, false, false, false, false, false] rfl rfl (take_ofW HT_.out HW_.out (by kernel_rfl)) (fun _ _ _ h => h) (Or.inl ⟨by rfl, ?_⟩) hHeld ?_ ?_
  rotate_left
  · rintro w' ⟨⟨s0, s1, s2, s3, s4, s5⟩, u0, u1, u2, u3, u4, u5⟩
    go_simp
    with_reducible rfl
  rotate_left
  · simp only [Act.put, List.setIfInBounds_toArray, List.set_cons_zero, List.set_cons_succ, i64_w, i32_w]
    rfl
  refine one_ (i := 2) (N := (some 7)) #[true, true, true, true, true, false, false, false, false, false, false, false, false, false, false, false, false] rfl rfl (one_of HT_.out (by kernel_rfl)) (by decide) (fun K hK => ?_)
  refine goes_ Try.func31 (by kernel_rfl) rfl #[.agg #[.int .i64 x.f0.f0, .int .i64 x.f0.f1, .string x.f1, .string x.f2, .slice A4 x.f3.length c4, .slice A5 x.f4.length c5], .agg #[.int .i64 y.f0.f0, .int .i64 y.f0.f1, .string y.f1, .string y.f2, .slice B4 y.f3.length e4, .slice B5 y.f4.length e5]] (by rfl) rfl rfl (by (try simp only [List.map_toArray, List.map_cons, List.map_nil]); first | done | rfl) ?_
  refine (same_calls _ x y _ _ _ _ _ _ _ _ _ (Nat.le_refl _) (HRX.out.below HBQ.out) (HRY.out.below HBQ.out)).mono ?_
  rintro e w3 ⟨rfl, hb3⟩
  refine ⟨_, rfl, ?_⟩
  have HBN : Aside0 (Below U.heap.size U w3) := ⟨HBQ.out.trans (hb3.mono HBQ.out.size)⟩
  clear HBQ hb3
  have HBQ := HBN
  clear HBN
  refine hK.out _ _ (⟨cells_now (HX.out) HBQ.out, cells_now HY.out HBQ.out⟩) (fun hHeld => ?_)
  clear hK K
  refine norm_ (a' := ?_) ?_ ?_
  rotate_left
  · show Act.put _ (some 7) _ = _
    simp only [Act.put, List.setIfInBounds_toArray, List.set_cons_zero, List.set_cons_succ, i64_w, i32_w]
    rfl
  refine one_ (i := 5) (N := (some 10)) #[true, true, true, true, true, true, false, false, false, false, false, false, false, false, false, false, false] rfl rfl (one_of HT_.out (by kernel_rfl)) (by decide) (fun K hK => ?_)
  refine goes_ Try.func14 (by kernel_rfl) rfl #[.agg #[.int .i64 x.f0.f0, .int .i64 x.f0.f1, .string x.f1, .string x.f2, .slice A4 x.f3.length c4, .slice A5 x.f4.length c5], .agg #[.int .i64 y.f0.f0, .int .i64 y.f0.f1, .string y.f1, .string y.f2, .slice B4 y.f3.length e4, .slice B5 y.f4.length e5]] (by rfl) rfl rfl (by (try simp only [List.map_toArray, List.map_cons, List.map_nil]); first | done | rfl) ?_
  refine (rsame_calls _ x y _ _ _ _ _ _ _ _ (HRX.out.below HBQ.out) (HRY.out.below HBQ.out) HFX.out).mono ?_
  rintro e w4 ⟨rfl, hb3⟩
  refine ⟨_, rfl, ?_⟩
  have HBN : Aside0 (Below U.heap.size U w4) := ⟨HBQ.out.trans (hb3.mono HBQ.out.size)⟩
  clear HBQ hb3
  have HBQ := HBN
  clear HBN
  refine hK.out _ _ (⟨cells_now (HX.out) HBQ.out, cells_now HY.out HBQ.out⟩) (fun hHeld => ?_)
  clear hK K
  refine norm_ (a' := ?_) ?_ ?_
  rotate_left
  · show Act.put _ (some 10) _ = _
    simp only [Act.put, List.setIfInBounds_toArray, List.set_cons_zero, List.set_cons_succ, i64_w, i32_w]
    rfl
  refine pure_ (i := 6) (N := (some 11)) (v := ?_) (a' := ?_) #[true, true, true, true, true, true, true, false, false, false, false, false, false, false, false, false, false] rfl rfl (any_of HT_.out (by kernel_rfl)) (fun _ _ _ h => h) (Or.inl ⟨by rfl, ?_⟩) ?_ ?_
  rotate_left
  · intro w'
    go_simp
    with_reducible rfl
  rotate_left
  · simp only [Act.put, List.setIfInBounds_toArray, List.set_cons_zero, List.set_cons_succ, i64_w, i32_w]
    rfl
  refine pure_ (i := 7) (N := (some 12)) (v := ?_) (a' := ?_) #[true, true, true, true, true, true, true, true, false, false, false, false, false, false, false, false, false] rfl rfl (any_of HT_.out (by kernel_rfl)) (fun _ _ _ h => h) (Or.inl ⟨by rfl, ?_⟩) ?_ ?_
  rotate_left
  · intro w'
    go_simp
    with_reducible rfl
  rotate_left
  · simp only [Act.put, List.setIfInBounds_toArray, List.set_cons_zero, List.set_cons_succ, i64_w, i32_w]
    rfl
  refine take_ (i := 8) (N := (some 13)) (v := ?_) (a' := ?_) #[true, true, true, true, true, true, true, true, true, false, false, false, false, false, false, false, false] rfl rfl (take_ofW HT_.out HW_.out (by kernel_rfl)) (fun _ _ _ h => h) (Or.inl ⟨by rfl, ?_⟩) hHeld ?_ ?_
  rotate_left
  · rintro w' ⟨⟨s0, s1, s2, s3, s4, s5⟩, u0, u1, u2, u3, u4, u5⟩
    go_simp
    with_reducible rfl
  rotate_left
  · simp only [Act.put, List.setIfInBounds_toArray, List.set_cons_zero, List.set_cons_succ, i64_w, i32_w]
    rfl
  refine take_ (i := 9) (N := (some 14)) (v := ?_) (a' := ?_) #[true, true, true, true, true, true, true, true, true, true, false, false, false, false, false, false, false] rfl rfl (take_ofW HT_.out HW_.out (by kernel_rfl)) (fun _ _ _ h => h) (Or.inl ⟨by rfl, ?_⟩) hHeld ?_ ?_
  rotate_left
  · rintro w' ⟨⟨s0, s1, s2, s3, s4, s5⟩, u0, u1, u2, u3, u4, u5⟩
    go_simp
    with_reducible rfl
  rotate_left
  · simp only [Act.put, List.setIfInBounds_toArray, List.set_cons_zero, List.set_cons_succ, i64_w, i32_w]
    rfl
  refine one_ (i := 10) (N := (some 15)) #[true, true, true, true, true, true, true, true, true, true, true, false, false, false, false, false, false] rfl rfl (one_of HT_.out (by kernel_rfl)) (by decide) (fun K hK => ?_)
  refine goes_ Try.func11 (by kernel_rfl) rfl #[.agg #[.int .i64 x.f0.f0, .int .i64 x.f0.f1, .string x.f1, .string x.f2, .slice A4 x.f3.length c4, .slice A5 x.f4.length c5]] (by rfl) rfl rfl (by (try simp only [List.map_toArray, List.map_cons, List.map_nil]); first | done | rfl) ?_
  refine (rcopy_calls _ x _ _ _ _ (HRX.out.below HBQ.out) HFX.out).mono ?_
  rintro e w5 ⟨D4, g4, D5, g5, rfl, hr5, hb3⟩
  have HR5 := Aside0.mk hr5
  clear hr5
  refine ⟨_, rfl, ?_⟩
  have HBN : Aside0 (Below U.heap.size U w5) := ⟨HBQ.out.trans (hb3.mono HBQ.out.size)⟩
  clear HBQ hb3
  have HBQ := HBN
  clear HBN
  refine hK.out _ _ (⟨cells_now (HX.out) HBQ.out, cells_now HY.out HBQ.out⟩) (fun hHeld => ?_)
  clear hK K
  refine norm_ (a' := ?_) ?_ ?_
  rotate_left
  · show Act.put _ (some 15) _ = _
    simp only [Act.put, List.setIfInBounds_toArray, List.set_cons_zero, List.set_cons_succ, i64_w, i32_w]
    rfl
  refine one_ (i := 11) (N := (some 16)) #[true, true, true, true, true, true, true, true, true, true, true, true, false, false, false, false, false] rfl rfl (one_of HT_.out (by kernel_rfl)) (by decide) (fun K hK => ?_)
  refine goes_ Try.func31 (by kernel_rfl) rfl #[.agg #[.int .i64 x.f0.f0, .int .i64 x.f0.f1, .string x.f1, .string x.f2, .slice A4 x.f3.length c4, .slice A5 x.f4.length c5], .agg #[.int .i64 x.f0.f0, .int .i64 x.f0.f1, .string x.f1, .string x.f2, .slice D4 x.f3.length g4, .slice D5 x.f4.length g5]] (by rfl) rfl rfl (by (try simp only [List.map_toArray, List.map_cons, List.map_nil]); first | done | rfl) ?_
  refine (same_self _ x _ _ _ _ _ _ _ _ (HRX.out.below HBQ.out) HR5.out).mono ?_
  rintro e w6 ⟨rfl, hb3⟩
  refine ⟨_, rfl, ?_⟩
  have HBN : Aside0 (Below U.heap.size U w6) := ⟨HBQ.out.trans (hb3.mono HBQ.out.size)⟩
  clear HBQ hb3
  have HBQ := HBN
  clear HBN
  refine hK.out _ _ (⟨cells_now (HX.out) HBQ.out, cells_now HY.out HBQ.out⟩) (fun hHeld => ?_)
  clear hK K
  refine norm_ (a' := ?_) ?_ ?_
  rotate_left
  · show Act.put _ (some 16) _ = _
    simp only [Act.put, List.setIfInBounds_toArray, List.set_cons_zero, List.set_cons_succ, i64_w, i32_w]
    rfl
  refine pure_ (i := 12) (N := (some 17)) (v := ?_) (a' := ?_) #[true, true, true, true, true, true, true, true, true, true, true, true, true, false, false, false, false] rfl rfl (any_of HT_.out (by kernel_rfl)) (fun _ _ _ h => h) (Or.inl ⟨by rfl, ?_⟩) ?_ ?_
  rotate_left
  · intro w'
    go_simp
    with_reducible rfl
  rotate_left
  · simp only [Act.put, List.setIfInBounds_toArray, List.set_cons_zero, List.set_cons_succ, i64_w, i32_w]
    rfl
  refine pure_ (i := 13) (N := (some 18)) (v := ?_) (a' := ?_) #[true, true, true, true, true, true, true, true, true, true, true, true, true, true, false, false, false] rfl rfl (any_of HT_.out (by kernel_rfl)) (fun _ _ _ h => h) (Or.inl ⟨by rfl, ?_⟩) ?_ ?_
  rotate_left
  · intro w'
    go_simp
    with_reducible rfl
  rotate_left
  · simp only [Act.put, List.setIfInBounds_toArray, List.set_cons_zero, List.set_cons_succ, i64_w, i32_w]
    rfl
  refine one_ (i := 14) (N := (some 19)) #[true, true, true, true, true, true, true, true, true, true, true, true, true, true, true, false, false] rfl rfl (one_of HT_.out (by kernel_rfl)) (by decide) (fun K hK => ?_)
  refine goes_ Try.func15 (by kernel_rfl) rfl #[] (by rfl) rfl rfl (by (try simp only [List.map_toArray, List.map_cons, List.map_nil]); first | done | rfl) ?_
  refine (awake_calls _).mono ?_
  rintro e w7 ⟨rfl, hb3⟩
  refine ⟨_, rfl, ?_⟩
  have HBN : Aside0 (Below U.heap.size U w7) := ⟨HBQ.out.trans (hb3.mono HBQ.out.size)⟩
  clear HBQ hb3
  have HBQ := HBN
  clear HBN
  refine hK.out _ _ (⟨cells_now (HX.out) HBQ.out, cells_now HY.out HBQ.out⟩) (fun hHeld => ?_)
  clear hK K
  refine norm_ (a' := ?_) ?_ ?_
  rotate_left
  · show Act.put _ (some 19) _ = _
    simp only [Act.put, List.setIfInBounds_toArray, List.set_cons_zero, List.set_cons_succ, i64_w, i32_w]
    rfl
  refine pure_ (i := 15) (N := (some 20)) (v := ?_) (a' := ?_) #[true, true, true, true, true, true, true, true, true, true, true, true, true, true, true, true, false] rfl rfl (any_of HT_.out (by kernel_rfl)) (fun _ _ _ h => h) (Or.inl ⟨by rfl, ?_⟩) ?_ ?_
  rotate_left
  · intro w'
    go_simp
    with_reducible rfl
  rotate_left
  · simp only [Act.put, List.setIfInBounds_toArray, List.set_cons_zero, List.set_cons_succ, i64_w, i32_w]
    rfl
  refine pure_ (i := 16) (N := (some 4)) (v := ?_) (a' := ?_) #[true, true, true, true, true, true, true, true, true, true, true, true, true, true, true, true, true] rfl rfl (any_of HT_.out (by kernel_rfl)) (fun _ _ _ h => h) (Or.inl ⟨by rfl, ?_⟩) ?_ ?_
  rotate_left
  · intro w'
    go_simp
    with_reducible rfl
  rotate_left
  · simp only [Act.put, List.setIfInBounds_toArray, List.set_cons_zero, List.set_cons_succ, i64_w, i32_w]
    rfl
  refine done_ (done_of HT_.out (by kernel_rfl)) ?_
  go_wp2
  go_ret
  exact ⟨rfl, HB0.out.trans (HBQ.out.mono HB0.out.size)⟩
end Go.Proofs.Ytnkbgimihikhoaa.PVt
