/- What the statement's row needs of this session's texts, joined by program: part 5. -/
import Derived.Test.YtnkbgimihikhoaaQU3
namespace Go.Proofs.Ytnkbgimihikhoaa.PVt
open Go.RowKit Go.Proofs.YtnkbgimihikhoaaW.PrintWords Go.Proofs.YtnkbgimihikhoaaW.PrintLast Go.Proofs.YtnkbgimihikhoaaW.PrintMore
attribute [local go_sem] max2_int min2_int max_two min_two max_three min_three max_four min_four
set_option linter.unusedVariables false
set_option linter.unusedSimpArgs false
def topiaryref14_Copy.l0 : Nat → Int → List (S52) → List (S97) → List (S74) → List (S111) → List (S52) → List (S97) → List (S74) → List (S111) → Option ((List (S52)) × (List (S97)) × (List (S74)) × (List (S111)))
 | 0, _, _, _, _, _, _, _, _, _ => none
 | k + 1, x4, x128000, x128001, x128002, x128003, x148000, x148001, x148002, x148003 => if x4 < (x128002.length : Int) then (if 0 ≤ x4 then ((some (([] : List (S23)) : List (S23))).bind fun y149 => (if y149.length + ((rd_T74 x128002 x4).f1).length < 8796093022208 then (if x148002.length < 3518437208883 then (topiaryref14_Copy.l0 k (wrap64 (x4 + 1)) x128000 x128001 x128002 x128003 x148000 x148001 (x148002 ++ [(⟨(⟨(rd_T74 x128002 x4).f0.f0, (rd_T74 x128002 x4).f0.f1⟩ : S23), (y149 ++ ((rd_T74 x128002 x4).f1))⟩ : S74)]) x148003) else (none)) else (none))) else (none)) else (some (x148000, x148001, x148002, x148003))
def topiaryref14_Copy.f (k : Nat) (l0_0 : List (S52)) (l0_1 : List (S97)) (l0_2 : List (S74)) (l0_3 : List (S111)) : Option ((List (S52)) × (List (S97)) × (List (S74)) × (List (S111))) := (some (([] : List (S52)) : List (S52))).bind fun y129 => (if y129.length + l0_0.length < 4398046511104 then ((some (([] : List (S97)) : List (S97))).bind fun y135 => (if y135.length + l0_1.length < 2932031007402 then ((some (([] : List (S111)) : List (S111))).bind fun y141 => (if y141.length + l0_3.length < 1954687338268 then (topiaryref14_Copy.l0 k 0 l0_0 l0_1 l0_2 l0_3 (y129 ++ l0_0) (y135 ++ l0_1) ([] : List (S74)) (y141 ++ l0_3)) else (none))) else (none))) else (none))
def topiaryref14_Copy.T1 : Bool × List (List Nat × List Nat) := (true, [([], []), ([], []), ([1], [1]), ([0, 2], [0, 2]), ([], []), ([], []), ([5], [5]), ([4, 6, 3], [4, 6]), ([], []), ([], []), ([9], [9]), ([8, 10, 7], [8, 10]), ([3, 7, 11], [3, 7, 11]), ([], []), ([13, 12, 11, 0, 1, 2, 3, 4, 5, 6, 7, 8, 9, 10, 11, 12, 13], [12, 13])])
def topiaryref14_Copy.B1 : List Nat := [0, 0, 2, 7, 0, 0, 32, 127, 0, 0, 512, 2047, 4095, 0, 16383]
theorem topiaryref14_Copy.tab1 : rtab .any (opsOf Try.f17 1) = topiaryref14_Copy.T1 := by kernel_rfl
theorem topiaryref14_Copy.bits1 : waitsOk topiaryref14_Copy.T1.2 topiaryref14_Copy.B1 = true := by kernel_rfl
def topiaryref14_Copy.T5 : Bool × List (List Nat × List Nat) := (true, [([], []), ([0], [0]), ([], []), ([2], [2]), ([], []), ([3, 4], [3, 4]), ([5], [5]), ([6], [6]), ([], []), ([], []), ([9], [9]), ([], []), ([10, 11], [10, 11]), ([12], [12]), ([13], [13]), ([8, 14], [8, 14]), ([7, 15], [7, 15]), ([16], [16]), ([1, 17, 15], [1, 17]), ([0, 1, 2, 3, 4, 5, 6, 7, 8, 9, 10, 11, 12, 13, 14, 15, 16, 17, 18], []), ([19, 18, 18, 0, 1, 2, 3, 4, 5, 6, 7, 8, 9, 10, 11, 12, 13, 14, 15, 16, 17, 18], [18, 19])])
def topiaryref14_Copy.B5 : List Nat := [0, 1, 0, 4, 0, 28, 60, 124, 0, 0, 512, 0, 3584, 7680, 15872, 32512, 65532, 131068, 262143, 524287, 1048575]
theorem topiaryref14_Copy.tab5 : rtab .any (opsOf Try.f17 5) = topiaryref14_Copy.T5 := by kernel_rfl
theorem topiaryref14_Copy.bits5 : waitsOk topiaryref14_Copy.T5.2 topiaryref14_Copy.B5 = true := by kernel_rfl
set_option maxHeartbeats 8000000 in
set_option maxRecDepth 100000 in
theorem topiaryref14_Copy.calls (k : Nat) (A0_0 : Option Addr) (c0_0 : Nat) (l0_0 : List (S52)) (A0_1 : Option Addr) (c0_1 : Nat) (l0_1 : List (S97)) (A0_2 : Option Addr) (c0_2 : Nat) (l0_2 : List (S74)) (A0_3 : Option Addr) (c0_3 : Nat) (l0_3 : List (S111)) (r1 : List (S52)) (r2 : List (S97)) (r3 : List (S74)) (r4 : List (S111)) (w : World) (hr0_0 : Kd.C k52 w A0_0 l0_0.length l0_0) (hc0_0 : l0_0.length ≤ c0_0) (hr0_1 : Kd.C k97 w A0_1 l0_1.length l0_1) (hc0_1 : l0_1.length ≤ c0_1) (hr0_2 : Kd.C k74 w A0_2 l0_2.length l0_2) (hc0_2 : l0_2.length ≤ c0_2) (hr0_3 : Kd.C k111 w A0_3 l0_3.length l0_3) (hc0_3 : l0_3.length ≤ c0_3) (h : topiaryref14_Copy.f k l0_0 l0_1 l0_2 l0_3 = some (r1, r2, r3, r4)) :
  Calls Try.prog 17 #[.agg #[.slice A0_0 l0_0.length c0_0, .slice A0_1 l0_1.length c0_1, .slice A0_2 l0_2.length c0_2, .slice A0_3 l0_3.length c0_3]] w fun e w' => ∃ v0_ v1_ v2_ v3_ : Value, e = .returned (.agg #[v0_, v1_, v2_, v3_]) ∧ Kd.R k52 52 w' w.heap.size (fun _ => True) v0_ r1 ∧ Kd.R k97 97 w' w.heap.size (fun _ => True) v1_ r2 ∧ Kd.S k74 74 w' w.heap.size (fun _ => True) v2_ r3 ∧ Kd.R k111 111 w' w.heap.size (fun _ => True) v3_ r4 ∧ Below w.heap.size w w' := by
 have hu39 := Try.underlying39
 have hu23 := Try.underlying23
 have hu74 := Try.underlying74
 have HR0_0 := Aside0.mk hr0_0
 have HC0_0 := Aside0.mk hc0_0
 clear hr0_0 hc0_0
 have HR0_1 := Aside0.mk hr0_1
 have HC0_1 := Aside0.mk hc0_1
 clear hr0_1 hc0_1
 have HR0_2 := Aside0.mk hr0_2
 have HC0_2 := Aside0.mk hc0_2
 clear hr0_2 hc0_2
 have HR0_3 := Aside0.mk hr0_3
 have HC0_3 := Aside0.mk hc0_3
 clear hr0_3 hc0_3
 have HB := Aside0.mk (Below.refl w.heap.size w)
 have H : ((some (([] : List (S52)) : List (S52))).bind fun y129 => (if y129.length + l0_0.length < 4398046511104 then ((some (([] : List (S97)) : List (S97))).bind fun y135 => (if y135.length + l0_1.length < 2932031007402 then ((some (([] : List (S111)) : List (S111))).bind fun y141 => (if y141.length + l0_3.length < 1954687338268 then (topiaryref14_Copy.l0 k 0 l0_0 l0_1 l0_2 l0_3 (y129 ++ l0_0) (y135 ++ l0_1) ([] : List (S74)) (y141 ++ l0_3)) else (none))) else (none))) else (none))) = some (r1, r2, r3, r4) := h
 clear h
 obtain ⟨y129, hy129⟩ : ∃ y_ : List (S52), y_ = (([] : List (S52))) := ⟨_, rfl⟩
 replace H : (if y129.length + l0_0.length < 4398046511104 then ((some (([] : List (S97)) : List (S97))).bind fun y135 => (if y135.length + l0_1.length < 2932031007402 then ((some (([] : List (S111)) : List (S111))).bind fun y141 => (if y141.length + l0_3.length < 1954687338268 then (topiaryref14_Copy.l0 k 0 l0_0 l0_1 l0_2 l0_3 (y129 ++ l0_0) (y135 ++ l0_1) ([] : List (S74)) (y141 ++ l0_3)) else (none))) else (none))) else (none)) = some (r1, r2, r3, r4) := by first | (rw [hy129]; with_reducible exact H) | (have H2_ := (Option.bind_some _ _).symm.trans H; rw [hy129]; with_reducible exact H2_) | (have H2_ := (Option.bind_some _ _).symm.trans H; with_reducible exact H2_) | with_reducible exact H | (rw [hy129]; exact H) | exact H
 have Ny129 := Aside0.mk hy129
 clear hy129
 by_cases c2 : y129.length + l0_0.length < 4398046511104
 ·rw [if_pos c2] at H
  have LMc2 := Aside0.mk c2
  clear c2
  obtain ⟨y132, hy132⟩ : ∃ y_ : List (S52), y_ = (y129 ++ l0_0) := ⟨_, rfl⟩
  replace H : ((some (([] : List (S97)) : List (S97))).bind fun y135 => (if y135.length + l0_1.length < 2932031007402 then ((some (([] : List (S111)) : List (S111))).bind fun y141 => (if y141.length + l0_3.length < 1954687338268 then (topiaryref14_Copy.l0 k 0 l0_0 l0_1 l0_2 l0_3 y132 (y135 ++ l0_1) ([] : List (S74)) (y141 ++ l0_3)) else (none))) else (none))) = some (r1, r2, r3, r4) := by first | (rw [hy132]; with_reducible exact H) | (have H2_ := (Option.bind_some _ _).symm.trans H; rw [hy132]; with_reducible exact H2_) | (have H2_ := (Option.bind_some _ _).symm.trans H; with_reducible exact H2_) | with_reducible exact H | (rw [hy132]; exact H) | exact H
  have Ny132 := Aside0.mk hy132
  clear hy132
  obtain ⟨y135, hy135⟩ : ∃ y_ : List (S97), y_ = (([] : List (S97))) := ⟨_, rfl⟩
  replace H : (if y135.length + l0_1.length < 2932031007402 then ((some (([] : List (S111)) : List (S111))).bind fun y141 => (if y141.length + l0_3.length < 1954687338268 then (topiaryref14_Copy.l0 k 0 l0_0 l0_1 l0_2 l0_3 y132 (y135 ++ l0_1) ([] : List (S74)) (y141 ++ l0_3)) else (none))) else (none)) = some (r1, r2, r3, r4) := by first | (rw [hy135]; with_reducible exact H) | (have H2_ := (Option.bind_some _ _).symm.trans H; rw [hy135]; with_reducible exact H2_) | (have H2_ := (Option.bind_some _ _).symm.trans H; with_reducible exact H2_) | with_reducible exact H | (rw [hy135]; exact H) | exact H
  have Ny135 := Aside0.mk hy135
  clear hy135
  by_cases c3 : y135.length + l0_1.length < 2932031007402
  ·rw [if_pos c3] at H
   have LMc3 := Aside0.mk c3
   clear c3
   obtain ⟨y138, hy138⟩ : ∃ y_ : List (S97), y_ = (y135 ++ l0_1) := ⟨_, rfl⟩
   replace H : ((some (([] : List (S111)) : List (S111))).bind fun y141 => (if y141.length + l0_3.length < 1954687338268 then (topiaryref14_Copy.l0 k 0 l0_0 l0_1 l0_2 l0_3 y132 y138 ([] : List (S74)) (y141 ++ l0_3)) else (none))) = some (r1, r2, r3, r4) := by first | (rw [hy138]; with_reducible exact H) | (have H2_ := (Option.bind_some _ _).symm.trans H; rw [hy138]; with_reducible exact H2_) | (have H2_ := (Option.bind_some _ _).symm.trans H; with_reducible exact H2_) | with_reducible exact H | (rw [hy138]; exact H) | exact H
   have Ny138 := Aside0.mk hy138
   clear hy138
   obtain ⟨y141, hy141⟩ : ∃ y_ : List (S111), y_ = (([] : List (S111))) := ⟨_, rfl⟩
   replace H : (if y141.length + l0_3.length < 1954687338268 then (topiaryref14_Copy.l0 k 0 l0_0 l0_1 l0_2 l0_3 y132 y138 ([] : List (S74)) (y141 ++ l0_3)) else (none)) = some (r1, r2, r3, r4) := by first | (rw [hy141]; with_reducible exact H) | (have H2_ := (Option.bind_some _ _).symm.trans H; rw [hy141]; with_reducible exact H2_) | (have H2_ := (Option.bind_some _ _).symm.trans H; with_reducible exact H2_) | with_reducible exact H | (rw [hy141]; exact H) | exact H
   have Ny141 := Aside0.mk hy141
   clear hy141
   by_cases c4 : y141.length + l0_3.length < 1954687338268
   ·rw [if_pos c4] at H
    have LMc4 := Aside0.mk c4
    clear c4
    obtain ⟨y144, hy144⟩ : ∃ y_ : List (S111), y_ = (y141 ++ l0_3) := ⟨_, rfl⟩
    replace H : (topiaryref14_Copy.l0 k 0 l0_0 l0_1 l0_2 l0_3 y132 y138 ([] : List (S74)) y144) = some (r1, r2, r3, r4) := by first | (rw [hy144]; with_reducible exact H) | (have H2_ := (Option.bind_some _ _).symm.trans H; rw [hy144]; with_reducible exact H2_) | (have H2_ := (Option.bind_some _ _).symm.trans H; with_reducible exact H2_) | with_reducible exact H | (rw [hy144]; exact H) | exact H
    have Ny144 := Aside0.mk hy144
    clear hy144
    have H' := Aside0.mk H
    clear H
    go_enter Try.func17, Try.ntmps17
    try go_wp2_with (first | ((with_reducible refine gate_dst (N := 1) rfl ?_); refine boxE (N := 1) (cs := #[.slice A0_0 l0_0.length c0_0, .slice A0_1 l0_1.length c0_1, .slice A0_2 l0_2.length c0_2, .slice A0_3 l0_3.length c0_3]) (t := 39) ?_; intro gb127 hg w5 hbox hb; have BK127 := Aside0.mk (hbox); have GW127 := Aside0.mk ((by rw [hg]; exact (below_size (bS HB)) : w.heap.size ≤ gb127)); have GE127 := Aside0.mk ((by rw [hg]; exact (below_size (bS HB)) : w.heap.size ≤ gb127)); replace HB := Aside0.mk (below_step (bS HB) hb); clear hb hbox hg) | ((with_reducible refine gate_dst (N := 2) rfl ?_); refine boxE (N := 2) (cs := #[.slice none 0 0, .slice none 0 0, .slice none 0 0, .slice none 0 0]) (t := 39) ?_; intro gb128 hg w6 hbox hb; have BK128 := Aside0.mk (hbox); have GW128 := Aside0.mk ((by rw [hg]; exact (below_size (bS1 HB GE127)) : w.heap.size ≤ gb128)); have GE128 := Aside0.mk ((by rw [hg]; exact (below_size (bS1 HB GE127)) : w.heap.size ≤ gb128)); have NB127_128 := nLt BK127 hg; have NB128_127 := nGt BK127 hg; replace BK127 := bB BK127 hb; replace HB := Aside0.mk (below_step (bS1 HB GE127) hb); clear hb hbox hg))
    replace BK127 := Aside0.mk (blk_drew BK127.out)
    replace BK128 := Aside0.mk (blk_drew BK128.out)
    replace HB := Aside0.mk (below_drew1 HB.out)
    refine startS (n := 15) (S := fun w' => C4e w' gb127 (.slice A0_0 l0_0.length c0_0) (.slice A0_1 l0_1.length c0_1) (.slice A0_2 l0_2.length c0_2) (.slice A0_3 l0_3.length c0_3)) (ds := []) (c4e BK127) (fun hHeld => ?_); refine with_tabW topiaryref14_Copy.tab1 topiaryref14_Copy.bits1 (fun HT_ HW_ => ?_)
    generalize w6.drew = w7 at BK127 BK128 HB hHeld ⊢
    refine pureT (i := 1) (N := some 6) HT_ ?_
    refine pureT (i := 5) (N := some 10) HT_ ?_
    refine pureT (i := 9) (N := some 14) HT_ ?_
    refine takeS (i := 2) (N := some 7) (v := ?_) HT_ HW_ hHeld ?_ ?_
    rotate_left
    ·rintro w' ⟨s0, s1, s2, s3⟩
     go_simp
     with_reducible rfl
    refine normS (N := some 7) ?_
    refine takeS (i := 6) (N := some 11) (v := ?_) HT_ HW_ hHeld ?_ ?_
    rotate_left
    ·rintro w' ⟨s0, s1, s2, s3⟩
     go_simp
     with_reducible rfl
    refine normS (N := some 11) ?_
    refine takeS (i := 10) (N := some 15) (v := ?_) HT_ HW_ hHeld ?_ ?_
    rotate_left
    ·rintro w' ⟨s0, s1, s2, s3⟩
     go_simp
     with_reducible rfl
    refine normS (N := some 15) ?_
    refine join_ (σ := Value × Value × Value × Value × Value × Value × Nat) 1 #[true, true, true, true, true, true, true, true, true, true, true, true, true, true, false] (fun s_ => [(5, s_.1), (8, s_.2.1), (9, s_.2.2.1), (12, s_.2.2.2.1), (13, s_.2.2.2.2.1), (16, s_.2.2.2.2.2.1), (3, .pointer (some ⟨s_.2.2.2.2.2.2, 0, none⟩)), (17, .agg #[s_.2.1, s_.2.2.2.1, .slice none 0 0, s_.2.2.2.2.2.1])]) (fun s_ w' => C4e w' gb127 (.slice A0_0 l0_0.length c0_0) (.slice A0_1 l0_1.length c0_1) (.slice A0_2 l0_2.length c0_2) (.slice A0_3 l0_3.length c0_3) ∧ (Kd.R k52 52 w' w.heap.size (fun _ => True) s_.2.1 y132) ∧ (Kd.R k97 97 w' w.heap.size (fun _ => True) s_.2.2.2.1 y138) ∧ (Kd.R k111 111 w' w.heap.size (fun _ => True) s_.2.2.2.2.2.1 y144) ∧ (w'.heap[gb127]? = some (.cells #[.slice A0_0 l0_0.length c0_0, .slice A0_1 l0_1.length c0_1, .slice A0_2 l0_2.length c0_2, .slice A0_3 l0_3.length c0_3] 39 (0, 0))) ∧ (w'.heap[gb128]? = some (.cells #[.slice none 0 0, .slice none 0 0, .slice none 0 0, .slice none 0 0] 39 (0, 0))) ∧ (w'.heap[s_.2.2.2.2.2.2]? = some (.cells #[.slice none 0 0, .slice none 0 0, .slice none 0 0, .slice none 0 0] 39 (0, 0))) ∧ (w.heap.size ≤ s_.2.2.2.2.2.2) ∧ (w.heap.size ≤ s_.2.2.2.2.2.2) ∧ (gb127 ≠ s_.2.2.2.2.2.2) ∧ (s_.2.2.2.2.2.2 ≠ gb127) ∧ (gb128 ≠ s_.2.2.2.2.2.2) ∧ (s_.2.2.2.2.2.2 ≠ gb128) ∧ (Below w.heap.size w w')) ?_ ?_
    rotate_left
    ·intro hJ0_3_4_7_8_11_13
     refine join_ (σ := Value × Value × Value × Value × Value × Value) 2 #[true, true, true, true, true, true, true, true, true, true, true, true, true, false, false] (fun s_ => [(5, s_.1), (8, s_.2.1), (9, s_.2.2.1), (12, s_.2.2.2.1), (13, s_.2.2.2.2.1), (16, s_.2.2.2.2.2), (17, .agg #[s_.2.1, s_.2.2.2.1, .slice none 0 0, s_.2.2.2.2.2])]) (fun s_ w' => C4e w' gb127 (.slice A0_0 l0_0.length c0_0) (.slice A0_1 l0_1.length c0_1) (.slice A0_2 l0_2.length c0_2) (.slice A0_3 l0_3.length c0_3) ∧ (Kd.R k52 52 w' w.heap.size (fun _ => True) s_.2.1 y132) ∧ (Kd.R k97 97 w' w.heap.size (fun _ => True) s_.2.2.2.1 y138) ∧ (Kd.R k111 111 w' w.heap.size (fun _ => True) s_.2.2.2.2.2 y144) ∧ (w'.heap[gb127]? = some (.cells #[.slice A0_0 l0_0.length c0_0, .slice A0_1 l0_1.length c0_1, .slice A0_2 l0_2.length c0_2, .slice A0_3 l0_3.length c0_3] 39 (0, 0))) ∧ (w'.heap[gb128]? = some (.cells #[.slice none 0 0, .slice none 0 0, .slice none 0 0, .slice none 0 0] 39 (0, 0))) ∧ (Below w.heap.size w w')) ?_ (fun hJ0_3_4_7_8_11 => ?_)
     ·clear BK127 BK128 HB
      rintro ⟨v130, v133, v136, v139, v142, v145⟩ w20 ⟨hHeld, h0_, h1_, h2_, h3_, h4_, h5_⟩
      have HO134 := Aside0.mk h0_; have HO140 := Aside0.mk h1_; have HO146 := Aside0.mk h2_; have BK127 := Aside0.mk h3_; have BK128 := Aside0.mk h4_; have HB := Aside0.mk h5_
      clear h0_ h1_ h2_ h3_ h4_ h5_
      obtain ⟨Ao21, co21, eo21⟩ := Kd.R_slice HO146.out
      (first | subst eo21 | (injection eo21 with f1_ f2_ f3_; have f4_ := f1_.symm; have f5_ := f3_.symm; clear f1_ f2_ f3_; subst f4_; subst f5_))
      obtain ⟨Ao22, co22, eo22⟩ := Kd.R_slice HO140.out
      (first | subst eo22 | (injection eo22 with f1_ f2_ f3_; have f4_ := f1_.symm; have f5_ := f3_.symm; clear f1_ f2_ f3_; subst f4_; subst f5_))
      obtain ⟨Ao23, co23, eo23⟩ := Kd.R_slice HO134.out
      (first | subst eo23 | (injection eo23 with f1_ f2_ f3_; have f4_ := f1_.symm; have f5_ := f3_.symm; clear f1_ f2_ f3_; subst f4_; subst f5_))
      refine normP ?_
      refine oneS (i := 13) (N := some 3) HT_ (fun K hK => ?_)
      refine box_step ?hg (N := 3) ?hd (cs := #[.slice none 0 0, .slice none 0 0, .slice none 0 0, .slice none 0 0]) (t := 39) ?hr ?_; (case hd => rfl); (case hg => rfl); (case hr => first | (go_simp; done) | (go_simp; rfl))
      intro gb147 hg w24 hbox hb
      have BK147 := Aside0.mk (hbox)
      have GW147 := Aside0.mk ((by rw [hg]; exact (below_size (bS2 HB GE127 GE128)) : w.heap.size ≤ gb147))
      have GE147 := Aside0.mk ((by rw [hg]; exact (below_size (bS2 HB GE127 GE128)) : w.heap.size ≤ gb147))
      have NB127_147 := nLt BK127 hg
      have NB147_127 := nGt BK127 hg
      have NB128_147 := nLt BK128 hg
      have NB147_128 := nGt BK128 hg
      replace HO134 := Aside0.mk (Kd.R_below (RS HO134) hb)
      replace HO140 := Aside0.mk (Kd.R_below (RS HO140) hb)
      replace HO146 := Aside0.mk (Kd.R_below (RS HO146) hb)
      replace BK127 := bB BK127 hb
      replace BK128 := bB BK128 hb
      replace HB := Aside0.mk (below_step (bS2 HB GE127 GE128) hb)
      clear hb hbox hg
      refine hK.out _ _ (c4e BK127) (fun hHeld => ?_)
      clear hK K
      refine normS (N := (some 3)) ?_
      exact normJ (hJ0_3_4_7_8_11_13 (v130, .slice Ao23 y132.length co23, v136, .slice Ao22 y138.length co22, v142, .slice Ao21 y144.length co21, gb147) _ ⟨hHeld, (RS HO134), (RS HO140), (RS HO146), (blkS BK127), (blkS BK128), (blkS BK147), GW147.out, GE147.out, NB127_147.out, NB147_127.out, NB128_147.out, NB147_128.out, (bS3 HB GE127 GE128 GE147)⟩)
     refine join_ (σ := Value × Value × Value × Value × Value × Nat) 3 #[true, true, true, true, true, true, true, true, true, true, true, false, false, true, false] (fun s_ => [(5, s_.1), (8, s_.2.1), (9, s_.2.2.1), (12, s_.2.2.2.1), (13, s_.2.2.2.2.1), (3, .pointer (some ⟨s_.2.2.2.2.2, 0, none⟩))]) (fun s_ w' => C4e w' gb127 (.slice A0_0 l0_0.length c0_0) (.slice A0_1 l0_1.length c0_1) (.slice A0_2 l0_2.length c0_2) (.slice A0_3 l0_3.length c0_3) ∧ (Kd.R k52 52 w' w.heap.size (fun _ => True) s_.2.1 y132) ∧ (Kd.R k97 97 w' w.heap.size (fun _ => True) s_.2.2.2.1 y138) ∧ (Kd.R k111 111 w' w.heap.size (fun _ => True) s_.2.2.2.2.1 y141) ∧ (w'.heap[gb127]? = some (.cells #[.slice A0_0 l0_0.length c0_0, .slice A0_1 l0_1.length c0_1, .slice A0_2 l0_2.length c0_2, .slice A0_3 l0_3.length c0_3] 39 (0, 0))) ∧ (w'.heap[gb128]? = some (.cells #[.slice none 0 0, .slice none 0 0, .slice none 0 0, .slice none 0 0] 39 (0, 0))) ∧ (w'.heap[s_.2.2.2.2.2]? = some (.cells #[.slice none 0 0, .slice none 0 0, .slice none 0 0, .slice none 0 0] 39 (0, 0))) ∧ (w.heap.size ≤ s_.2.2.2.2.2) ∧ (w.heap.size ≤ s_.2.2.2.2.2) ∧ (gb127 ≠ s_.2.2.2.2.2) ∧ (s_.2.2.2.2.2 ≠ gb127) ∧ (gb128 ≠ s_.2.2.2.2.2) ∧ (s_.2.2.2.2.2 ≠ gb128) ∧ (Below w.heap.size w w')) ?_ (fun hJ0_3_4_7_8_13 => ?_)
     ·clear BK127 BK128 HB
      rintro ⟨v130, v133, v136, v139, v142, gb147⟩ w17 ⟨hHeld, h0_, h1_, h2_, h3_, h4_, h5_, h6_, h7_, h8_, h9_, h10_, h11_, h12_⟩
      have HO134 := Aside0.mk h0_; have HO140 := Aside0.mk h1_; have HO143 := Aside0.mk h2_; have BK127 := Aside0.mk h3_; have BK128 := Aside0.mk h4_; have BK147 := Aside0.mk h5_; have GW147 := Aside0.mk h6_; have GE147 := Aside0.mk h7_; have NB127_147 := Aside0.mk h8_; have NB147_127 := Aside0.mk h9_; have NB128_147 := Aside0.mk h10_; have NB147_128 := Aside0.mk h11_; have HB := Aside0.mk h12_
      clear h0_ h1_ h2_ h3_ h4_ h5_ h6_ h7_ h8_ h9_ h10_ h11_ h12_
      refine normP ?_
      refine oneS (i := 11) (N := some 16) HT_ (fun K hK => ?_)
      refine Kd.R_append_rows_step k111 (w0 := w) w.heap.size (by rfl) (.tmp 13) (.tmp 15) 37 111 (.agg #[(.int .i64 0), (.int .i64 0), (.string ⟨#[]⟩), (.int .i64 0), (.int .i64 0), (.string ⟨#[]⟩), (.bool false)]) 72 rfl Try.underlying37 info111 rfl (by decide) (by omega) v142 y141 l0_3 _ _ _ (fun _ => True) (fun _ => False) rfl rfl ?aO ?aR (fun _ _ h => h) (fun _ h => h.elim) ?aF ?aB ?aS ?aL ?_
      (case aR => repeat (first | exact (Kd.C_below HR0_3.out HB.out) | (with_reducible refine Kd.C_alloc ?_ _) | (with_reducible refine Kd.C_drewN ?_ _) | (with_reducible refine Kd.C_drew ?_)))
      (case aB => exact (bS3 HB GE127 GE128 GE147))
      (case aF => exact (fun _ _ => trivial))
      (case aO => exact (RS HO143))
      (case aS => exact (below_size (bS3 HB GE127 GE128 GE147)))
      (case aL => have := LMc4.out; omega)
      intro v145 w18 ho hb hg hat
      rw [← Ny144.out] at ho
      replace BK127 := Aside0.mk (blk_grown (blkS BK127) hg (Kd.R_ne HO143.out BK127.out (by decide)))
      replace BK128 := Aside0.mk (blk_grown (blkS BK128) hg (Kd.R_ne HO143.out BK128.out (by decide)))
      replace HO134 := Aside0.mk (Kd.R_over' (RS HO134) (Kd.R_typed (RS HO143)) (by decide) hg)
      replace HO140 := Aside0.mk (Kd.R_over' (RS HO140) (Kd.R_typed (RS HO143)) (by decide) hg)
      replace BK147 := Aside0.mk (blk_grown (blkS BK147) hg (Kd.R_ne HO143.out BK147.out (by decide)))
      replace HB := Aside0.mk (hb)
      have HO146 := Aside0.mk (ho)
      clear HO143 ho hb hg hat
      obtain ⟨Ao19, co19, eo19⟩ := Kd.R_slice HO146.out
      (first | subst eo19 | (injection eo19 with f1_ f2_ f3_; have f4_ := f1_.symm; have f5_ := f3_.symm; clear f1_ f2_ f3_; subst f4_; subst f5_))
      obtain ⟨Ao20, co20, eo20⟩ := Kd.R_slice HO140.out
      (first | subst eo20 | (injection eo20 with f1_ f2_ f3_; have f4_ := f1_.symm; have f5_ := f3_.symm; clear f1_ f2_ f3_; subst f4_; subst f5_))
      obtain ⟨Ao21, co21, eo21⟩ := Kd.R_slice HO134.out
      (first | subst eo21 | (injection eo21 with f1_ f2_ f3_; have f4_ := f1_.symm; have f5_ := f3_.symm; clear f1_ f2_ f3_; subst f4_; subst f5_))
      refine hK.out _ _ (c4e BK127) (fun hHeld => ?_)
      clear hK K
      refine normS (N := (some 16)) ?_
      refine pureT (i := 12) (N := some 17) HT_ ?_
      exact normJ (hJ0_3_4_7_8_11_13 (v130, .slice Ao21 y132.length co21, v136, .slice Ao20 y138.length co20, v142, .slice Ao19 y144.length co19, gb147) _ ⟨hHeld, (RS HO134), (RS HO140), (RS HO146), (blkS BK127), (blkS BK128), (blkS BK147), GW147.out, GE147.out, NB127_147.out, NB147_127.out, NB128_147.out, NB147_128.out, (bS3 HB GE127 GE128 GE147)⟩)
     refine join_ (σ := Value × Value × Value × Value × Value) 4 #[true, true, true, true, true, true, true, true, true, true, true, false, false, false, false] (fun s_ => [(5, s_.1), (8, s_.2.1), (9, s_.2.2.1), (12, s_.2.2.2.1), (13, s_.2.2.2.2)]) (fun s_ w' => C4e w' gb127 (.slice A0_0 l0_0.length c0_0) (.slice A0_1 l0_1.length c0_1) (.slice A0_2 l0_2.length c0_2) (.slice A0_3 l0_3.length c0_3) ∧ (Kd.R k52 52 w' w.heap.size (fun _ => True) s_.2.1 y132) ∧ (Kd.R k97 97 w' w.heap.size (fun _ => True) s_.2.2.2.1 y138) ∧ (Kd.R k111 111 w' w.heap.size (fun _ => True) s_.2.2.2.2 y141) ∧ (w'.heap[gb127]? = some (.cells #[.slice A0_0 l0_0.length c0_0, .slice A0_1 l0_1.length c0_1, .slice A0_2 l0_2.length c0_2, .slice A0_3 l0_3.length c0_3] 39 (0, 0))) ∧ (w'.heap[gb128]? = some (.cells #[.slice none 0 0, .slice none 0 0, .slice none 0 0, .slice none 0 0] 39 (0, 0))) ∧ (Below w.heap.size w w')) ?_ (fun hJ0_3_4_7_8 => ?_)
     ·clear BK127 BK128 HB
      rintro ⟨v130, v133, v136, v139, v142⟩ w16 ⟨hHeld, h0_, h1_, h2_, h3_, h4_, h5_⟩
      have HO134 := Aside0.mk h0_; have HO140 := Aside0.mk h1_; have HO143 := Aside0.mk h2_; have BK127 := Aside0.mk h3_; have BK128 := Aside0.mk h4_; have HB := Aside0.mk h5_
      clear h0_ h1_ h2_ h3_ h4_ h5_
      refine normP ?_
      refine twoS (i := 11) (j := 13) (Ni := some 16) (Nj := some 3) HT_ (fun K hK => ?_) (fun K hK => ?_)
      ·skip
       refine Kd.R_append_rows_step k111 (w0 := w) w.heap.size (by rfl) (.tmp 13) (.tmp 15) 37 111 (.agg #[(.int .i64 0), (.int .i64 0), (.string ⟨#[]⟩), (.int .i64 0), (.int .i64 0), (.string ⟨#[]⟩), (.bool false)]) 72 rfl Try.underlying37 info111 rfl (by decide) (by omega) v142 y141 l0_3 _ _ _ (fun _ => True) (fun _ => False) rfl rfl ?aO ?aR (fun _ _ h => h) (fun _ h => h.elim) ?aF ?aB ?aS ?aL ?_
       (case aR => repeat (first | exact (Kd.C_below HR0_3.out HB.out) | (with_reducible refine Kd.C_alloc ?_ _) | (with_reducible refine Kd.C_drewN ?_ _) | (with_reducible refine Kd.C_drew ?_)))
       (case aB => exact (bS2 HB GE127 GE128))
       (case aF => exact (fun _ _ => trivial))
       (case aO => exact (RS HO143))
       (case aS => exact (below_size (bS2 HB GE127 GE128)))
       (case aL => have := LMc4.out; omega)
       intro v145 w17 ho hb hg hat
       rw [← Ny144.out] at ho
       replace BK127 := Aside0.mk (blk_grown (blkS BK127) hg (Kd.R_ne HO143.out BK127.out (by decide)))
       replace BK128 := Aside0.mk (blk_grown (blkS BK128) hg (Kd.R_ne HO143.out BK128.out (by decide)))
       replace HO134 := Aside0.mk (Kd.R_over' (RS HO134) (Kd.R_typed (RS HO143)) (by decide) hg)
       replace HO140 := Aside0.mk (Kd.R_over' (RS HO140) (Kd.R_typed (RS HO143)) (by decide) hg)
       replace HB := Aside0.mk (hb)
       have HO146 := Aside0.mk (ho)
       clear HO143 ho hb hg hat
       obtain ⟨Ao18, co18, eo18⟩ := Kd.R_slice HO146.out
       (first | subst eo18 | (injection eo18 with f1_ f2_ f3_; have f4_ := f1_.symm; have f5_ := f3_.symm; clear f1_ f2_ f3_; subst f4_; subst f5_))
       obtain ⟨Ao19, co19, eo19⟩ := Kd.R_slice HO140.out
       (first | subst eo19 | (injection eo19 with f1_ f2_ f3_; have f4_ := f1_.symm; have f5_ := f3_.symm; clear f1_ f2_ f3_; subst f4_; subst f5_))
       obtain ⟨Ao20, co20, eo20⟩ := Kd.R_slice HO134.out
       (first | subst eo20 | (injection eo20 with f1_ f2_ f3_; have f4_ := f1_.symm; have f5_ := f3_.symm; clear f1_ f2_ f3_; subst f4_; subst f5_))
       refine hK.out _ _ (c4e BK127) (fun hHeld => ?_)
       clear hK K
       refine normS (N := (some 16)) ?_
       refine pureT (i := 12) (N := some 17) HT_ ?_
       exact normJ (hJ0_3_4_7_8_11 (v130, .slice Ao20 y132.length co20, v136, .slice Ao19 y138.length co19, v142, .slice Ao18 y144.length co18) _ ⟨hHeld, (RS HO134), (RS HO140), (RS HO146), (blkS BK127), (blkS BK128), (bS2 HB GE127 GE128)⟩)
      ·skip
       refine box_step ?hg (N := 3) ?hd (cs := #[.slice none 0 0, .slice none 0 0, .slice none 0 0, .slice none 0 0]) (t := 39) ?hr ?_; (case hd => rfl); (case hg => rfl); (case hr => first | (go_simp; done) | (go_simp; rfl))
       intro gb147 hg w17 hbox hb
       have BK147 := Aside0.mk (hbox)
       have GW147 := Aside0.mk ((by rw [hg]; exact (below_size (bS2 HB GE127 GE128)) : w.heap.size ≤ gb147))
       have GE147 := Aside0.mk ((by rw [hg]; exact (below_size (bS2 HB GE127 GE128)) : w.heap.size ≤ gb147))
       have NB127_147 := nLt BK127 hg
       have NB147_127 := nGt BK127 hg
       have NB128_147 := nLt BK128 hg
       have NB147_128 := nGt BK128 hg
       replace HO134 := Aside0.mk (Kd.R_below (RS HO134) hb)
       replace HO140 := Aside0.mk (Kd.R_below (RS HO140) hb)
       replace HO143 := Aside0.mk (Kd.R_below (RS HO143) hb)
       replace BK127 := bB BK127 hb
       replace BK128 := bB BK128 hb
       replace HB := Aside0.mk (below_step (bS2 HB GE127 GE128) hb)
       clear hb hbox hg
       refine hK.out _ _ (c4e BK127) (fun hHeld => ?_)
       clear hK K
       refine normS (N := (some 3)) ?_
       exact normJ (hJ0_3_4_7_8_13 (v130, v133, v136, v139, v142, gb147) _ ⟨hHeld, (RS HO134), (RS HO140), (RS HO143), (blkS BK127), (blkS BK128), (blkS BK147), GW147.out, GE147.out, NB127_147.out, NB147_127.out, NB128_147.out, NB147_128.out, (bS3 HB GE127 GE128 GE147)⟩)
     refine join_ (σ := Value × Value × Value × Value × Nat) 4 #[true, true, true, true, true, true, true, true, false, true, true, false, false, true, false] (fun s_ => [(5, s_.1), (8, s_.2.1), (9, s_.2.2.1), (12, s_.2.2.2.1), (3, .pointer (some ⟨s_.2.2.2.2, 0, none⟩))]) (fun s_ w' => C4e w' gb127 (.slice A0_0 l0_0.length c0_0) (.slice A0_1 l0_1.length c0_1) (.slice A0_2 l0_2.length c0_2) (.slice A0_3 l0_3.length c0_3) ∧ (Kd.R k52 52 w' w.heap.size (fun _ => True) s_.2.1 y132) ∧ (Kd.R k97 97 w' w.heap.size (fun _ => True) s_.2.2.2.1 y138) ∧ (w'.heap[gb127]? = some (.cells #[.slice A0_0 l0_0.length c0_0, .slice A0_1 l0_1.length c0_1, .slice A0_2 l0_2.length c0_2, .slice A0_3 l0_3.length c0_3] 39 (0, 0))) ∧ (w'.heap[gb128]? = some (.cells #[.slice none 0 0, .slice none 0 0, .slice none 0 0, .slice none 0 0] 39 (0, 0))) ∧ (w'.heap[s_.2.2.2.2]? = some (.cells #[.slice none 0 0, .slice none 0 0, .slice none 0 0, .slice none 0 0] 39 (0, 0))) ∧ (w.heap.size ≤ s_.2.2.2.2) ∧ (w.heap.size ≤ s_.2.2.2.2) ∧ (gb127 ≠ s_.2.2.2.2) ∧ (s_.2.2.2.2 ≠ gb127) ∧ (gb128 ≠ s_.2.2.2.2) ∧ (s_.2.2.2.2 ≠ gb128) ∧ (Below w.heap.size w w')) ?_ (fun hJ0_3_4_7_13 => ?_)
     ·clear BK127 BK128 HB
      rintro ⟨v130, v133, v136, v139, gb147⟩ w15 ⟨hHeld, h0_, h1_, h2_, h3_, h4_, h5_, h6_, h7_, h8_, h9_, h10_, h11_⟩
      have HO134 := Aside0.mk h0_; have HO140 := Aside0.mk h1_; have BK127 := Aside0.mk h2_; have BK128 := Aside0.mk h3_; have BK147 := Aside0.mk h4_; have GW147 := Aside0.mk h5_; have GE147 := Aside0.mk h6_; have NB127_147 := Aside0.mk h7_; have NB147_127 := Aside0.mk h8_; have NB128_147 := Aside0.mk h9_; have NB147_128 := Aside0.mk h10_; have HB := Aside0.mk h11_
      clear h0_ h1_ h2_ h3_ h4_ h5_ h6_ h7_ h8_ h9_ h10_ h11_
      refine normP ?_
      refine oneS (i := 8) (N := some 13) HT_ (fun K hK => ?_)
      refine litE k111 111 (N := 13) ?_
      intro v142 w16 ho17 hb hg_ hnew_
      clear hg_ hnew_
      (first | rw [← Ny141.out] at ho17 | (simp only [Int.reduceToNat] at ho17; rw [← Ny141.out] at ho17))
      have HO143 := Aside0.mk (Kd.R_lower ho17 (below_size (bS3 HB GE127 GE128 GE147)))
      replace HO134 := Aside0.mk (Kd.R_below (RS HO134) hb)
      replace HO140 := Aside0.mk (Kd.R_below (RS HO140) hb)
      replace BK127 := bB BK127 hb
      replace BK128 := bB BK128 hb
      replace BK147 := bB BK147 hb
      replace HB := Aside0.mk (below_step (bS3 HB GE127 GE128 GE147) hb)
      clear hb ho17
      refine hK.out _ _ (c4e BK127) (fun hHeld => ?_)
      clear hK K
      refine normS (N := (some 13)) ?_
      exact normJ (hJ0_3_4_7_8_13 (v130, v133, v136, v139, v142, gb147) _ ⟨hHeld, (RS HO134), (RS HO140), (RS HO143), (blkS BK127), (blkS BK128), (blkS BK147), GW147.out, GE147.out, NB127_147.out, NB147_127.out, NB128_147.out, NB147_128.out, (bS3 HB GE127 GE128 GE147)⟩)
     refine join_ (σ := Value × Value × Value × Value × Nat) 4 #[true, true, true, true, true, true, true, false, true, true, true, false, false, true, false] (fun s_ => [(5, s_.1), (8, s_.2.1), (9, s_.2.2.1), (13, s_.2.2.2.1), (3, .pointer (some ⟨s_.2.2.2.2, 0, none⟩))]) (fun s_ w' => C4e w' gb127 (.slice A0_0 l0_0.length c0_0) (.slice A0_1 l0_1.length c0_1) (.slice A0_2 l0_2.length c0_2) (.slice A0_3 l0_3.length c0_3) ∧ (Kd.R k52 52 w' w.heap.size (fun _ => True) s_.2.1 y132) ∧ (Kd.R k97 97 w' w.heap.size (fun _ => True) s_.2.2.1 y135) ∧ (Kd.R k111 111 w' w.heap.size (fun _ => True) s_.2.2.2.1 y141) ∧ (w'.heap[gb127]? = some (.cells #[.slice A0_0 l0_0.length c0_0, .slice A0_1 l0_1.length c0_1, .slice A0_2 l0_2.length c0_2, .slice A0_3 l0_3.length c0_3] 39 (0, 0))) ∧ (w'.heap[gb128]? = some (.cells #[.slice none 0 0, .slice none 0 0, .slice none 0 0, .slice none 0 0] 39 (0, 0))) ∧ (w'.heap[s_.2.2.2.2]? = some (.cells #[.slice none 0 0, .slice none 0 0, .slice none 0 0, .slice none 0 0] 39 (0, 0))) ∧ (w.heap.size ≤ s_.2.2.2.2) ∧ (w.heap.size ≤ s_.2.2.2.2) ∧ (gb127 ≠ s_.2.2.2.2) ∧ (s_.2.2.2.2 ≠ gb127) ∧ (gb128 ≠ s_.2.2.2.2) ∧ (s_.2.2.2.2 ≠ gb128) ∧ (Below w.heap.size w w')) ?_ (fun hJ0_3_4_8_13 => ?_)
     ·clear BK127 BK128 HB
      rintro ⟨v130, v133, v136, v142, gb147⟩ w16 ⟨hHeld, h0_, h1_, h2_, h3_, h4_, h5_, h6_, h7_, h8_, h9_, h10_, h11_, h12_⟩
      have HO134 := Aside0.mk h0_; have HO137 := Aside0.mk h1_; have HO143 := Aside0.mk h2_; have BK127 := Aside0.mk h3_; have BK128 := Aside0.mk h4_; have BK147 := Aside0.mk h5_; have GW147 := Aside0.mk h6_; have GE147 := Aside0.mk h7_; have NB127_147 := Aside0.mk h8_; have NB147_127 := Aside0.mk h9_; have NB128_147 := Aside0.mk h10_; have NB147_128 := Aside0.mk h11_; have HB := Aside0.mk h12_
      clear h0_ h1_ h2_ h3_ h4_ h5_ h6_ h7_ h8_ h9_ h10_ h11_ h12_
      refine normP ?_
      refine oneS (i := 7) (N := some 12) HT_ (fun K hK => ?_)
      refine Kd.R_append_rows_step k97 (w0 := w) w.heap.size (by rfl) (.tmp 9) (.tmp 11) 35 97 (.agg #[(.int .i64 0), (.int .i64 0), (.int .i64 0), (.int .i64 0), (.int .i64 0), (.int .i64 0)]) 48 rfl Try.underlying35 info97 rfl (by decide) (by omega) v136 y135 l0_1 _ _ _ (fun _ => True) (fun _ => False) rfl rfl ?aO ?aR (fun _ _ h => h) (fun _ h => h.elim) ?aF ?aB ?aS ?aL ?_
      (case aR => repeat (first | exact (Kd.C_below HR0_1.out HB.out) | (with_reducible refine Kd.C_alloc ?_ _) | (with_reducible refine Kd.C_drewN ?_ _) | (with_reducible refine Kd.C_drew ?_)))
      (case aB => exact (bS3 HB GE127 GE128 GE147))
      (case aF => exact (fun _ _ => trivial))
      (case aO => exact (RS HO137))
      (case aS => exact (below_size (bS3 HB GE127 GE128 GE147)))
      (case aL => have := LMc3.out; omega)
      intro v139 w17 ho hb hg hat
      rw [← Ny138.out] at ho
      replace BK127 := Aside0.mk (blk_grown (blkS BK127) hg (Kd.R_ne HO137.out BK127.out (by decide)))
      replace BK128 := Aside0.mk (blk_grown (blkS BK128) hg (Kd.R_ne HO137.out BK128.out (by decide)))
      replace HO134 := Aside0.mk (Kd.R_over' (RS HO134) (Kd.R_typed (RS HO137)) (by decide) hg)
      replace HO143 := Aside0.mk (Kd.R_over' (RS HO143) (Kd.R_typed (RS HO137)) (by decide) hg)
      replace BK147 := Aside0.mk (blk_grown (blkS BK147) hg (Kd.R_ne HO137.out BK147.out (by decide)))
      replace HB := Aside0.mk (hb)
      have HO140 := Aside0.mk (ho)
      clear HO137 ho hb hg hat
      refine hK.out _ _ (c4e BK127) (fun hHeld => ?_)
      clear hK K
      refine normS (N := (some 12)) ?_
      exact normJ (hJ0_3_4_7_8_13 (v130, v133, v136, v139, v142, gb147) _ ⟨hHeld, (RS HO134), (RS HO140), (RS HO143), (blkS BK127), (blkS BK128), (blkS BK147), GW147.out, GE147.out, NB127_147.out, NB147_127.out, NB128_147.out, NB147_128.out, (bS3 HB GE127 GE128 GE147)⟩)
     refine join_ (σ := Value × Value × Value × Value) 5 #[true, true, true, true, true, true, true, true, false, true, true, false, false, false, false] (fun s_ => [(5, s_.1), (8, s_.2.1), (9, s_.2.2.1), (12, s_.2.2.2)]) (fun s_ w' => C4e w' gb127 (.slice A0_0 l0_0.length c0_0) (.slice A0_1 l0_1.length c0_1) (.slice A0_2 l0_2.length c0_2) (.slice A0_3 l0_3.length c0_3) ∧ (Kd.R k52 52 w' w.heap.size (fun _ => True) s_.2.1 y132) ∧ (Kd.R k97 97 w' w.heap.size (fun _ => True) s_.2.2.2 y138) ∧ (w'.heap[gb127]? = some (.cells #[.slice A0_0 l0_0.length c0_0, .slice A0_1 l0_1.length c0_1, .slice A0_2 l0_2.length c0_2, .slice A0_3 l0_3.length c0_3] 39 (0, 0))) ∧ (w'.heap[gb128]? = some (.cells #[.slice none 0 0, .slice none 0 0, .slice none 0 0, .slice none 0 0] 39 (0, 0))) ∧ (Below w.heap.size w w')) ?_ (fun hJ0_3_4_7 => ?_)
     ·clear BK127 BK128 HB
      rintro ⟨v130, v133, v136, v139⟩ w14 ⟨hHeld, h0_, h1_, h2_, h3_, h4_⟩
      have HO134 := Aside0.mk h0_; have HO140 := Aside0.mk h1_; have BK127 := Aside0.mk h2_; have BK128 := Aside0.mk h3_; have HB := Aside0.mk h4_
      clear h0_ h1_ h2_ h3_ h4_
      refine normP ?_
      refine twoS (i := 8) (j := 13) (Ni := some 13) (Nj := some 3) HT_ (fun K hK => ?_) (fun K hK => ?_)
      ·skip
       refine litE k111 111 (N := 13) ?_
       intro v142 w15 ho16 hb hg_ hnew_
       clear hg_ hnew_
       (first | rw [← Ny141.out] at ho16 | (simp only [Int.reduceToNat] at ho16; rw [← Ny141.out] at ho16))
       have HO143 := Aside0.mk (Kd.R_lower ho16 (below_size (bS2 HB GE127 GE128)))
       replace HO134 := Aside0.mk (Kd.R_below (RS HO134) hb)
       replace HO140 := Aside0.mk (Kd.R_below (RS HO140) hb)
       replace BK127 := bB BK127 hb
       replace BK128 := bB BK128 hb
       replace HB := Aside0.mk (below_step (bS2 HB GE127 GE128) hb)
       clear hb ho16
       refine hK.out _ _ (c4e BK127) (fun hHeld => ?_)
       clear hK K
       refine normS (N := (some 13)) ?_
       exact normJ (hJ0_3_4_7_8 (v130, v133, v136, v139, v142) _ ⟨hHeld, (RS HO134), (RS HO140), (RS HO143), (blkS BK127), (blkS BK128), (bS2 HB GE127 GE128)⟩)
      ·skip
       refine box_step ?hg (N := 3) ?hd (cs := #[.slice none 0 0, .slice none 0 0, .slice none 0 0, .slice none 0 0]) (t := 39) ?hr ?_; (case hd => rfl); (case hg => rfl); (case hr => first | (go_simp; done) | (go_simp; rfl))
       intro gb147 hg w15 hbox hb
       have BK147 := Aside0.mk (hbox)
       have GW147 := Aside0.mk ((by rw [hg]; exact (below_size (bS2 HB GE127 GE128)) : w.heap.size ≤ gb147))
       have GE147 := Aside0.mk ((by rw [hg]; exact (below_size (bS2 HB GE127 GE128)) : w.heap.size ≤ gb147))
       have NB127_147 := nLt BK127 hg
       have NB147_127 := nGt BK127 hg
       have NB128_147 := nLt BK128 hg
       have NB147_128 := nGt BK128 hg
       replace HO134 := Aside0.mk (Kd.R_below (RS HO134) hb)
       replace HO140 := Aside0.mk (Kd.R_below (RS HO140) hb)
       replace BK127 := bB BK127 hb
       replace BK128 := bB BK128 hb
       replace HB := Aside0.mk (below_step (bS2 HB GE127 GE128) hb)
       clear hb hbox hg
       refine hK.out _ _ (c4e BK127) (fun hHeld => ?_)
       clear hK K
       refine normS (N := (some 3)) ?_
       exact normJ (hJ0_3_4_7_13 (v130, v133, v136, v139, gb147) _ ⟨hHeld, (RS HO134), (RS HO140), (blkS BK127), (blkS BK128), (blkS BK147), GW147.out, GE147.out, NB127_147.out, NB147_127.out, NB128_147.out, NB147_128.out, (bS3 HB GE127 GE128 GE147)⟩)
     refine join_ (σ := Value × Value × Value × Value) 5 #[true, true, true, true, true, true, true, false, true, true, true, false, false, false, false] (fun s_ => [(5, s_.1), (8, s_.2.1), (9, s_.2.2.1), (13, s_.2.2.2)]) (fun s_ w' => C4e w' gb127 (.slice A0_0 l0_0.length c0_0) (.slice A0_1 l0_1.length c0_1) (.slice A0_2 l0_2.length c0_2) (.slice A0_3 l0_3.length c0_3) ∧ (Kd.R k52 52 w' w.heap.size (fun _ => True) s_.2.1 y132) ∧ (Kd.R k97 97 w' w.heap.size (fun _ => True) s_.2.2.1 y135) ∧ (Kd.R k111 111 w' w.heap.size (fun _ => True) s_.2.2.2 y141) ∧ (w'.heap[gb127]? = some (.cells #[.slice A0_0 l0_0.length c0_0, .slice A0_1 l0_1.length c0_1, .slice A0_2 l0_2.length c0_2, .slice A0_3 l0_3.length c0_3] 39 (0, 0))) ∧ (w'.heap[gb128]? = some (.cells #[.slice none 0 0, .slice none 0 0, .slice none 0 0, .slice none 0 0] 39 (0, 0))) ∧ (Below w.heap.size w w')) ?_ (fun hJ0_3_4_8 => ?_)
     ·clear BK127 BK128 HB
      rintro ⟨v130, v133, v136, v142⟩ w15 ⟨hHeld, h0_, h1_, h2_, h3_, h4_, h5_⟩
      have HO134 := Aside0.mk h0_; have HO137 := Aside0.mk h1_; have HO143 := Aside0.mk h2_; have BK127 := Aside0.mk h3_; have BK128 := Aside0.mk h4_; have HB := Aside0.mk h5_
      clear h0_ h1_ h2_ h3_ h4_ h5_
      refine normP ?_
      refine twoS (i := 7) (j := 13) (Ni := some 12) (Nj := some 3) HT_ (fun K hK => ?_) (fun K hK => ?_)
      ·skip
       refine Kd.R_append_rows_step k97 (w0 := w) w.heap.size (by rfl) (.tmp 9) (.tmp 11) 35 97 (.agg #[(.int .i64 0), (.int .i64 0), (.int .i64 0), (.int .i64 0), (.int .i64 0), (.int .i64 0)]) 48 rfl Try.underlying35 info97 rfl (by decide) (by omega) v136 y135 l0_1 _ _ _ (fun _ => True) (fun _ => False) rfl rfl ?aO ?aR (fun _ _ h => h) (fun _ h => h.elim) ?aF ?aB ?aS ?aL ?_
       (case aR => repeat (first | exact (Kd.C_below HR0_1.out HB.out) | (with_reducible refine Kd.C_alloc ?_ _) | (with_reducible refine Kd.C_drewN ?_ _) | (with_reducible refine Kd.C_drew ?_)))
       (case aB => exact (bS2 HB GE127 GE128))
       (case aF => exact (fun _ _ => trivial))
       (case aO => exact (RS HO137))
       (case aS => exact (below_size (bS2 HB GE127 GE128)))
       (case aL => have := LMc3.out; omega)
       intro v139 w16 ho hb hg hat
       rw [← Ny138.out] at ho
       replace BK127 := Aside0.mk (blk_grown (blkS BK127) hg (Kd.R_ne HO137.out BK127.out (by decide)))
       replace BK128 := Aside0.mk (blk_grown (blkS BK128) hg (Kd.R_ne HO137.out BK128.out (by decide)))
       replace HO134 := Aside0.mk (Kd.R_over' (RS HO134) (Kd.R_typed (RS HO137)) (by decide) hg)
       replace HO143 := Aside0.mk (Kd.R_over' (RS HO143) (Kd.R_typed (RS HO137)) (by decide) hg)
       replace HB := Aside0.mk (hb)
       have HO140 := Aside0.mk (ho)
       clear HO137 ho hb hg hat
       refine hK.out _ _ (c4e BK127) (fun hHeld => ?_)
       clear hK K
       refine normS (N := (some 12)) ?_
       exact normJ (hJ0_3_4_7_8 (v130, v133, v136, v139, v142) _ ⟨hHeld, (RS HO134), (RS HO140), (RS HO143), (blkS BK127), (blkS BK128), (bS2 HB GE127 GE128)⟩)
      ·skip
       refine box_step ?hg (N := 3) ?hd (cs := #[.slice none 0 0, .slice none 0 0, .slice none 0 0, .slice none 0 0]) (t := 39) ?hr ?_; (case hd => rfl); (case hg => rfl); (case hr => first | (go_simp; done) | (go_simp; rfl))
       intro gb147 hg w16 hbox hb
       have BK147 := Aside0.mk (hbox)
       have GW147 := Aside0.mk ((by rw [hg]; exact (below_size (bS2 HB GE127 GE128)) : w.heap.size ≤ gb147))
       have GE147 := Aside0.mk ((by rw [hg]; exact (below_size (bS2 HB GE127 GE128)) : w.heap.size ≤ gb147))
       have NB127_147 := nLt BK127 hg
       have NB147_127 := nGt BK127 hg
       have NB128_147 := nLt BK128 hg
       have NB147_128 := nGt BK128 hg
       replace HO134 := Aside0.mk (Kd.R_below (RS HO134) hb)
       replace HO137 := Aside0.mk (Kd.R_below (RS HO137) hb)
       replace HO143 := Aside0.mk (Kd.R_below (RS HO143) hb)
       replace BK127 := bB BK127 hb
       replace BK128 := bB BK128 hb
       replace HB := Aside0.mk (below_step (bS2 HB GE127 GE128) hb)
       clear hb hbox hg
       refine hK.out _ _ (c4e BK127) (fun hHeld => ?_)
       clear hK K
       refine normS (N := (some 3)) ?_
       exact normJ (hJ0_3_4_8_13 (v130, v133, v136, v142, gb147) _ ⟨hHeld, (RS HO134), (RS HO137), (RS HO143), (blkS BK127), (blkS BK128), (blkS BK147), GW147.out, GE147.out, NB127_147.out, NB147_127.out, NB128_147.out, NB147_128.out, (bS3 HB GE127 GE128 GE147)⟩)
     refine join_ (σ := Value × Value × Value × Nat) 5 #[true, true, true, true, true, true, true, false, false, true, true, false, false, true, false] (fun s_ => [(5, s_.1), (8, s_.2.1), (9, s_.2.2.1), (3, .pointer (some ⟨s_.2.2.2, 0, none⟩))]) (fun s_ w' => C4e w' gb127 (.slice A0_0 l0_0.length c0_0) (.slice A0_1 l0_1.length c0_1) (.slice A0_2 l0_2.length c0_2) (.slice A0_3 l0_3.length c0_3) ∧ (Kd.R k52 52 w' w.heap.size (fun _ => True) s_.2.1 y132) ∧ (Kd.R k97 97 w' w.heap.size (fun _ => True) s_.2.2.1 y135) ∧ (w'.heap[gb127]? = some (.cells #[.slice A0_0 l0_0.length c0_0, .slice A0_1 l0_1.length c0_1, .slice A0_2 l0_2.length c0_2, .slice A0_3 l0_3.length c0_3] 39 (0, 0))) ∧ (w'.heap[gb128]? = some (.cells #[.slice none 0 0, .slice none 0 0, .slice none 0 0, .slice none 0 0] 39 (0, 0))) ∧ (w'.heap[s_.2.2.2]? = some (.cells #[.slice none 0 0, .slice none 0 0, .slice none 0 0, .slice none 0 0] 39 (0, 0))) ∧ (w.heap.size ≤ s_.2.2.2) ∧ (w.heap.size ≤ s_.2.2.2) ∧ (gb127 ≠ s_.2.2.2) ∧ (s_.2.2.2 ≠ gb127) ∧ (gb128 ≠ s_.2.2.2) ∧ (s_.2.2.2 ≠ gb128) ∧ (Below w.heap.size w w')) ?_ (fun hJ0_3_4_13 => ?_)
     ·clear BK127 BK128 HB
      rintro ⟨v130, v133, v136, gb147⟩ w14 ⟨hHeld, h0_, h1_, h2_, h3_, h4_, h5_, h6_, h7_, h8_, h9_, h10_, h11_⟩
      have HO134 := Aside0.mk h0_; have HO137 := Aside0.mk h1_; have BK127 := Aside0.mk h2_; have BK128 := Aside0.mk h3_; have BK147 := Aside0.mk h4_; have GW147 := Aside0.mk h5_; have GE147 := Aside0.mk h6_; have NB127_147 := Aside0.mk h7_; have NB147_127 := Aside0.mk h8_; have NB128_147 := Aside0.mk h9_; have NB147_128 := Aside0.mk h10_; have HB := Aside0.mk h11_
      clear h0_ h1_ h2_ h3_ h4_ h5_ h6_ h7_ h8_ h9_ h10_ h11_
      refine normP ?_
      refine twoS (i := 7) (j := 8) (Ni := some 12) (Nj := some 13) HT_ (fun K hK => ?_) (fun K hK => ?_)
      ·skip
       refine Kd.R_append_rows_step k97 (w0 := w) w.heap.size (by rfl) (.tmp 9) (.tmp 11) 35 97 (.agg #[(.int .i64 0), (.int .i64 0), (.int .i64 0), (.int .i64 0), (.int .i64 0), (.int .i64 0)]) 48 rfl Try.underlying35 info97 rfl (by decide) (by omega) v136 y135 l0_1 _ _ _ (fun _ => True) (fun _ => False) rfl rfl ?aO ?aR (fun _ _ h => h) (fun _ h => h.elim) ?aF ?aB ?aS ?aL ?_
       (case aR => repeat (first | exact (Kd.C_below HR0_1.out HB.out) | (with_reducible refine Kd.C_alloc ?_ _) | (with_reducible refine Kd.C_drewN ?_ _) | (with_reducible refine Kd.C_drew ?_)))
       (case aB => exact (bS3 HB GE127 GE128 GE147))
       (case aF => exact (fun _ _ => trivial))
       (case aO => exact (RS HO137))
       (case aS => exact (below_size (bS3 HB GE127 GE128 GE147)))
       (case aL => have := LMc3.out; omega)
       intro v139 w15 ho hb hg hat
       rw [← Ny138.out] at ho
       replace BK127 := Aside0.mk (blk_grown (blkS BK127) hg (Kd.R_ne HO137.out BK127.out (by decide)))
       replace BK128 := Aside0.mk (blk_grown (blkS BK128) hg (Kd.R_ne HO137.out BK128.out (by decide)))
       replace HO134 := Aside0.mk (Kd.R_over' (RS HO134) (Kd.R_typed (RS HO137)) (by decide) hg)
       replace BK147 := Aside0.mk (blk_grown (blkS BK147) hg (Kd.R_ne HO137.out BK147.out (by decide)))
       replace HB := Aside0.mk (hb)
       have HO140 := Aside0.mk (ho)
       clear HO137 ho hb hg hat
       refine hK.out _ _ (c4e BK127) (fun hHeld => ?_)
       clear hK K
       refine normS (N := (some 12)) ?_
       exact normJ (hJ0_3_4_7_13 (v130, v133, v136, v139, gb147) _ ⟨hHeld, (RS HO134), (RS HO140), (blkS BK127), (blkS BK128), (blkS BK147), GW147.out, GE147.out, NB127_147.out, NB147_127.out, NB128_147.out, NB147_128.out, (bS3 HB GE127 GE128 GE147)⟩)
      ·skip
       refine litE k111 111 (N := 13) ?_
       intro v142 w15 ho16 hb hg_ hnew_
       clear hg_ hnew_
       (first | rw [← Ny141.out] at ho16 | (simp only [Int.reduceToNat] at ho16; rw [← Ny141.out] at ho16))
       have HO143 := Aside0.mk (Kd.R_lower ho16 (below_size (bS3 HB GE127 GE128 GE147)))
       replace HO134 := Aside0.mk (Kd.R_below (RS HO134) hb)
       replace HO137 := Aside0.mk (Kd.R_below (RS HO137) hb)
       replace BK127 := bB BK127 hb
       replace BK128 := bB BK128 hb
       replace BK147 := bB BK147 hb
       replace HB := Aside0.mk (below_step (bS3 HB GE127 GE128 GE147) hb)
       clear hb ho16
       refine hK.out _ _ (c4e BK127) (fun hHeld => ?_)
       clear hK K
       refine normS (N := (some 13)) ?_
       exact normJ (hJ0_3_4_8_13 (v130, v133, v136, v142, gb147) _ ⟨hHeld, (RS HO134), (RS HO137), (RS HO143), (blkS BK127), (blkS BK128), (blkS BK147), GW147.out, GE147.out, NB127_147.out, NB147_127.out, NB128_147.out, NB147_128.out, (bS3 HB GE127 GE128 GE147)⟩)
     refine join_ (σ := Value × Value × Value × Nat) 5 #[true, true, true, true, false, true, true, false, true, true, true, false, false, true, false] (fun s_ => [(5, s_.1), (8, s_.2.1), (13, s_.2.2.1), (3, .pointer (some ⟨s_.2.2.2, 0, none⟩))]) (fun s_ w' => C4e w' gb127 (.slice A0_0 l0_0.length c0_0) (.slice A0_1 l0_1.length c0_1) (.slice A0_2 l0_2.length c0_2) (.slice A0_3 l0_3.length c0_3) ∧ (Kd.R k52 52 w' w.heap.size (fun _ => True) s_.2.1 y132) ∧ (Kd.R k111 111 w' w.heap.size (fun _ => True) s_.2.2.1 y141) ∧ (w'.heap[gb127]? = some (.cells #[.slice A0_0 l0_0.length c0_0, .slice A0_1 l0_1.length c0_1, .slice A0_2 l0_2.length c0_2, .slice A0_3 l0_3.length c0_3] 39 (0, 0))) ∧ (w'.heap[gb128]? = some (.cells #[.slice none 0 0, .slice none 0 0, .slice none 0 0, .slice none 0 0] 39 (0, 0))) ∧ (w'.heap[s_.2.2.2]? = some (.cells #[.slice none 0 0, .slice none 0 0, .slice none 0 0, .slice none 0 0] 39 (0, 0))) ∧ (w.heap.size ≤ s_.2.2.2) ∧ (w.heap.size ≤ s_.2.2.2) ∧ (gb127 ≠ s_.2.2.2) ∧ (s_.2.2.2 ≠ gb127) ∧ (gb128 ≠ s_.2.2.2) ∧ (s_.2.2.2 ≠ gb128) ∧ (Below w.heap.size w w')) ?_ (fun hJ0_3_8_13 => ?_)
     ·clear BK127 BK128 HB
      rintro ⟨v130, v133, v142, gb147⟩ w14 ⟨hHeld, h0_, h1_, h2_, h3_, h4_, h5_, h6_, h7_, h8_, h9_, h10_, h11_⟩
      have HO134 := Aside0.mk h0_; have HO143 := Aside0.mk h1_; have BK127 := Aside0.mk h2_; have BK128 := Aside0.mk h3_; have BK147 := Aside0.mk h4_; have GW147 := Aside0.mk h5_; have GE147 := Aside0.mk h6_; have NB127_147 := Aside0.mk h7_; have NB147_127 := Aside0.mk h8_; have NB128_147 := Aside0.mk h9_; have NB147_128 := Aside0.mk h10_; have HB := Aside0.mk h11_
      clear h0_ h1_ h2_ h3_ h4_ h5_ h6_ h7_ h8_ h9_ h10_ h11_
      refine normP ?_
      refine oneS (i := 4) (N := some 9) HT_ (fun K hK => ?_)
      refine litE k97 97 (N := 9) ?_
      intro v136 w15 ho16 hb hg_ hnew_
      clear hg_ hnew_
      (first | rw [← Ny135.out] at ho16 | (simp only [Int.reduceToNat] at ho16; rw [← Ny135.out] at ho16))
      have HO137 := Aside0.mk (Kd.R_lower ho16 (below_size (bS3 HB GE127 GE128 GE147)))
      replace HO134 := Aside0.mk (Kd.R_below (RS HO134) hb)
      replace HO143 := Aside0.mk (Kd.R_below (RS HO143) hb)
      replace BK127 := bB BK127 hb
      replace BK128 := bB BK128 hb
      replace BK147 := bB BK147 hb
      replace HB := Aside0.mk (below_step (bS3 HB GE127 GE128 GE147) hb)
      clear hb ho16
      refine hK.out _ _ (c4e BK127) (fun hHeld => ?_)
      clear hK K
      refine normS (N := (some 9)) ?_
      exact normJ (hJ0_3_4_8_13 (v130, v133, v136, v142, gb147) _ ⟨hHeld, (RS HO134), (RS HO137), (RS HO143), (blkS BK127), (blkS BK128), (blkS BK147), GW147.out, GE147.out, NB127_147.out, NB147_127.out, NB128_147.out, NB147_128.out, (bS3 HB GE127 GE128 GE147)⟩)
     refine join_ (σ := Value × Value × Value × Nat) 5 #[true, true, true, false, true, true, true, false, true, true, true, false, false, true, false] (fun s_ => [(5, s_.1), (9, s_.2.1), (13, s_.2.2.1), (3, .pointer (some ⟨s_.2.2.2, 0, none⟩))]) (fun s_ w' => C4e w' gb127 (.slice A0_0 l0_0.length c0_0) (.slice A0_1 l0_1.length c0_1) (.slice A0_2 l0_2.length c0_2) (.slice A0_3 l0_3.length c0_3) ∧ (Kd.R k52 52 w' w.heap.size (fun _ => True) s_.1 y129) ∧ (Kd.R k97 97 w' w.heap.size (fun _ => True) s_.2.1 y135) ∧ (Kd.R k111 111 w' w.heap.size (fun _ => True) s_.2.2.1 y141) ∧ (w'.heap[gb127]? = some (.cells #[.slice A0_0 l0_0.length c0_0, .slice A0_1 l0_1.length c0_1, .slice A0_2 l0_2.length c0_2, .slice A0_3 l0_3.length c0_3] 39 (0, 0))) ∧ (w'.heap[gb128]? = some (.cells #[.slice none 0 0, .slice none 0 0, .slice none 0 0, .slice none 0 0] 39 (0, 0))) ∧ (w'.heap[s_.2.2.2]? = some (.cells #[.slice none 0 0, .slice none 0 0, .slice none 0 0, .slice none 0 0] 39 (0, 0))) ∧ (w.heap.size ≤ s_.2.2.2) ∧ (w.heap.size ≤ s_.2.2.2) ∧ (gb127 ≠ s_.2.2.2) ∧ (s_.2.2.2 ≠ gb127) ∧ (gb128 ≠ s_.2.2.2) ∧ (s_.2.2.2 ≠ gb128) ∧ (Below w.heap.size w w')) ?_ (fun hJ0_4_8_13 => ?_)
     ·clear BK127 BK128 HB
      rintro ⟨v130, v136, v142, gb147⟩ w15 ⟨hHeld, h0_, h1_, h2_, h3_, h4_, h5_, h6_, h7_, h8_, h9_, h10_, h11_, h12_⟩
      have HO131 := Aside0.mk h0_; have HO137 := Aside0.mk h1_; have HO143 := Aside0.mk h2_; have BK127 := Aside0.mk h3_; have BK128 := Aside0.mk h4_; have BK147 := Aside0.mk h5_; have GW147 := Aside0.mk h6_; have GE147 := Aside0.mk h7_; have NB127_147 := Aside0.mk h8_; have NB147_127 := Aside0.mk h9_; have NB128_147 := Aside0.mk h10_; have NB147_128 := Aside0.mk h11_; have HB := Aside0.mk h12_
      clear h0_ h1_ h2_ h3_ h4_ h5_ h6_ h7_ h8_ h9_ h10_ h11_ h12_
      refine normP ?_
      refine oneS (i := 3) (N := some 8) HT_ (fun K hK => ?_)
      refine Kd.R_append_rows_step k52 (w0 := w) w.heap.size (by rfl) (.tmp 5) (.tmp 7) 34 52 (.agg #[(.int .i64 0), (.int .i64 0), (.string ⟨#[]⟩)]) 32 rfl Try.underlying34 info52 rfl (by decide) (by omega) v130 y129 l0_0 _ _ _ (fun _ => True) (fun _ => False) rfl rfl ?aO ?aR (fun _ _ h => h) (fun _ h => h.elim) ?aF ?aB ?aS ?aL ?_
      (case aR => repeat (first | exact (Kd.C_below HR0_0.out HB.out) | (with_reducible refine Kd.C_alloc ?_ _) | (with_reducible refine Kd.C_drewN ?_ _) | (with_reducible refine Kd.C_drew ?_)))
      (case aB => exact (bS3 HB GE127 GE128 GE147))
      (case aF => exact (fun _ _ => trivial))
      (case aO => exact (RS HO131))
      (case aS => exact (below_size (bS3 HB GE127 GE128 GE147)))
      (case aL => have := LMc2.out; omega)
      intro v133 w16 ho hb hg hat
      rw [← Ny132.out] at ho
      replace BK127 := Aside0.mk (blk_grown (blkS BK127) hg (Kd.R_ne HO131.out BK127.out (by decide)))
      replace BK128 := Aside0.mk (blk_grown (blkS BK128) hg (Kd.R_ne HO131.out BK128.out (by decide)))
      replace HO137 := Aside0.mk (Kd.R_over' (RS HO137) (Kd.R_typed (RS HO131)) (by decide) hg)
      replace HO143 := Aside0.mk (Kd.R_over' (RS HO143) (Kd.R_typed (RS HO131)) (by decide) hg)
      replace BK147 := Aside0.mk (blk_grown (blkS BK147) hg (Kd.R_ne HO131.out BK147.out (by decide)))
      replace HB := Aside0.mk (hb)
      have HO134 := Aside0.mk (ho)
      clear HO131 ho hb hg hat
      refine hK.out _ _ (c4e BK127) (fun hHeld => ?_)
      clear hK K
      refine normS (N := (some 8)) ?_
      exact normJ (hJ0_3_4_8_13 (v130, v133, v136, v142, gb147) _ ⟨hHeld, (RS HO134), (RS HO137), (RS HO143), (blkS BK127), (blkS BK128), (blkS BK147), GW147.out, GE147.out, NB127_147.out, NB147_127.out, NB128_147.out, NB147_128.out, (bS3 HB GE127 GE128 GE147)⟩)
     refine join_ (σ := Value × Value × Value) 6 #[true, true, true, true, true, true, true, false, false, true, true, false, false, false, false] (fun s_ => [(5, s_.1), (8, s_.2.1), (9, s_.2.2)]) (fun s_ w' => C4e w' gb127 (.slice A0_0 l0_0.length c0_0) (.slice A0_1 l0_1.length c0_1) (.slice A0_2 l0_2.length c0_2) (.slice A0_3 l0_3.length c0_3) ∧ (Kd.R k52 52 w' w.heap.size (fun _ => True) s_.2.1 y132) ∧ (Kd.R k97 97 w' w.heap.size (fun _ => True) s_.2.2 y135) ∧ (w'.heap[gb127]? = some (.cells #[.slice A0_0 l0_0.length c0_0, .slice A0_1 l0_1.length c0_1, .slice A0_2 l0_2.length c0_2, .slice A0_3 l0_3.length c0_3] 39 (0, 0))) ∧ (w'.heap[gb128]? = some (.cells #[.slice none 0 0, .slice none 0 0, .slice none 0 0, .slice none 0 0] 39 (0, 0))) ∧ (Below w.heap.size w w')) ?_ (fun hJ0_3_4 => ?_)
     ·clear BK127 BK128 HB
      rintro ⟨v130, v133, v136⟩ w13 ⟨hHeld, h0_, h1_, h2_, h3_, h4_⟩
      have HO134 := Aside0.mk h0_; have HO137 := Aside0.mk h1_; have BK127 := Aside0.mk h2_; have BK128 := Aside0.mk h3_; have HB := Aside0.mk h4_
      clear h0_ h1_ h2_ h3_ h4_
      refine normP ?_
      refine threeS (i := 7) (j := 8) (k := 13) (Ni := some 12) (Nj := some 13) (Nk := some 3) HT_ (fun K hK => ?_) (fun K hK => ?_) (fun K hK => ?_)
      ·skip
       refine Kd.R_append_rows_step k97 (w0 := w) w.heap.size (by rfl) (.tmp 9) (.tmp 11) 35 97 (.agg #[(.int .i64 0), (.int .i64 0), (.int .i64 0), (.int .i64 0), (.int .i64 0), (.int .i64 0)]) 48 rfl Try.underlying35 info97 rfl (by decide) (by omega) v136 y135 l0_1 _ _ _ (fun _ => True) (fun _ => False) rfl rfl ?aO ?aR (fun _ _ h => h) (fun _ h => h.elim) ?aF ?aB ?aS ?aL ?_
       (case aR => repeat (first | exact (Kd.C_below HR0_1.out HB.out) | (with_reducible refine Kd.C_alloc ?_ _) | (with_reducible refine Kd.C_drewN ?_ _) | (with_reducible refine Kd.C_drew ?_)))
       (case aB => exact (bS2 HB GE127 GE128))
       (case aF => exact (fun _ _ => trivial))
       (case aO => exact (RS HO137))
       (case aS => exact (below_size (bS2 HB GE127 GE128)))
       (case aL => have := LMc3.out; omega)
       intro v139 w14 ho hb hg hat
       rw [← Ny138.out] at ho
       replace BK127 := Aside0.mk (blk_grown (blkS BK127) hg (Kd.R_ne HO137.out BK127.out (by decide)))
       replace BK128 := Aside0.mk (blk_grown (blkS BK128) hg (Kd.R_ne HO137.out BK128.out (by decide)))
       replace HO134 := Aside0.mk (Kd.R_over' (RS HO134) (Kd.R_typed (RS HO137)) (by decide) hg)
       replace HB := Aside0.mk (hb)
       have HO140 := Aside0.mk (ho)
       clear HO137 ho hb hg hat
       refine hK.out _ _ (c4e BK127) (fun hHeld => ?_)
       clear hK K
       refine normS (N := (some 12)) ?_
       exact normJ (hJ0_3_4_7 (v130, v133, v136, v139) _ ⟨hHeld, (RS HO134), (RS HO140), (blkS BK127), (blkS BK128), (bS2 HB GE127 GE128)⟩)
      ·skip
       refine litE k111 111 (N := 13) ?_
       intro v142 w14 ho15 hb hg_ hnew_
       clear hg_ hnew_
       (first | rw [← Ny141.out] at ho15 | (simp only [Int.reduceToNat] at ho15; rw [← Ny141.out] at ho15))
       have HO143 := Aside0.mk (Kd.R_lower ho15 (below_size (bS2 HB GE127 GE128)))
       replace HO134 := Aside0.mk (Kd.R_below (RS HO134) hb)
       replace HO137 := Aside0.mk (Kd.R_below (RS HO137) hb)
       replace BK127 := bB BK127 hb
       replace BK128 := bB BK128 hb
       replace HB := Aside0.mk (below_step (bS2 HB GE127 GE128) hb)
       clear hb ho15
       refine hK.out _ _ (c4e BK127) (fun hHeld => ?_)
       clear hK K
       refine normS (N := (some 13)) ?_
       exact normJ (hJ0_3_4_8 (v130, v133, v136, v142) _ ⟨hHeld, (RS HO134), (RS HO137), (RS HO143), (blkS BK127), (blkS BK128), (bS2 HB GE127 GE128)⟩)
      ·skip
       refine box_step ?hg (N := 3) ?hd (cs := #[.slice none 0 0, .slice none 0 0, .slice none 0 0, .slice none 0 0]) (t := 39) ?hr ?_; (case hd => rfl); (case hg => rfl); (case hr => first | (go_simp; done) | (go_simp; rfl))
       intro gb147 hg w14 hbox hb
       have BK147 := Aside0.mk (hbox)
       have GW147 := Aside0.mk ((by rw [hg]; exact (below_size (bS2 HB GE127 GE128)) : w.heap.size ≤ gb147))
       have GE147 := Aside0.mk ((by rw [hg]; exact (below_size (bS2 HB GE127 GE128)) : w.heap.size ≤ gb147))
       have NB127_147 := nLt BK127 hg
       have NB147_127 := nGt BK127 hg
       have NB128_147 := nLt BK128 hg
       have NB147_128 := nGt BK128 hg
       replace HO134 := Aside0.mk (Kd.R_below (RS HO134) hb)
       replace HO137 := Aside0.mk (Kd.R_below (RS HO137) hb)
       replace BK127 := bB BK127 hb
       replace BK128 := bB BK128 hb
       replace HB := Aside0.mk (below_step (bS2 HB GE127 GE128) hb)
       clear hb hbox hg
       refine hK.out _ _ (c4e BK127) (fun hHeld => ?_)
       clear hK K
       refine normS (N := (some 3)) ?_
       exact normJ (hJ0_3_4_13 (v130, v133, v136, gb147) _ ⟨hHeld, (RS HO134), (RS HO137), (blkS BK127), (blkS BK128), (blkS BK147), GW147.out, GE147.out, NB127_147.out, NB147_127.out, NB128_147.out, NB147_128.out, (bS3 HB GE127 GE128 GE147)⟩)
     refine join_ (σ := Value × Value × Value) 6 #[true, true, true, true, false, true, true, false, true, true, true, false, false, false, false] (fun s_ => [(5, s_.1), (8, s_.2.1), (13, s_.2.2)]) (fun s_ w' => C4e w' gb127 (.slice A0_0 l0_0.length c0_0) (.slice A0_1 l0_1.length c0_1) (.slice A0_2 l0_2.length c0_2) (.slice A0_3 l0_3.length c0_3) ∧ (Kd.R k52 52 w' w.heap.size (fun _ => True) s_.2.1 y132) ∧ (Kd.R k111 111 w' w.heap.size (fun _ => True) s_.2.2 y141) ∧ (w'.heap[gb127]? = some (.cells #[.slice A0_0 l0_0.length c0_0, .slice A0_1 l0_1.length c0_1, .slice A0_2 l0_2.length c0_2, .slice A0_3 l0_3.length c0_3] 39 (0, 0))) ∧ (w'.heap[gb128]? = some (.cells #[.slice none 0 0, .slice none 0 0, .slice none 0 0, .slice none 0 0] 39 (0, 0))) ∧ (Below w.heap.size w w')) ?_ (fun hJ0_3_8 => ?_)
     ·clear BK127 BK128 HB
      rintro ⟨v130, v133, v142⟩ w13 ⟨hHeld, h0_, h1_, h2_, h3_, h4_⟩
      have HO134 := Aside0.mk h0_; have HO143 := Aside0.mk h1_; have BK127 := Aside0.mk h2_; have BK128 := Aside0.mk h3_; have HB := Aside0.mk h4_
      clear h0_ h1_ h2_ h3_ h4_
      refine normP ?_
      refine twoS (i := 4) (j := 13) (Ni := some 9) (Nj := some 3) HT_ (fun K hK => ?_) (fun K hK => ?_)
      ·skip
       refine litE k97 97 (N := 9) ?_
       intro v136 w14 ho15 hb hg_ hnew_
       clear hg_ hnew_
       (first | rw [← Ny135.out] at ho15 | (simp only [Int.reduceToNat] at ho15; rw [← Ny135.out] at ho15))
       have HO137 := Aside0.mk (Kd.R_lower ho15 (below_size (bS2 HB GE127 GE128)))
       replace HO134 := Aside0.mk (Kd.R_below (RS HO134) hb)
       replace HO143 := Aside0.mk (Kd.R_below (RS HO143) hb)
       replace BK127 := bB BK127 hb
       replace BK128 := bB BK128 hb
       replace HB := Aside0.mk (below_step (bS2 HB GE127 GE128) hb)
       clear hb ho15
       refine hK.out _ _ (c4e BK127) (fun hHeld => ?_)
       clear hK K
       refine normS (N := (some 9)) ?_
       exact normJ (hJ0_3_4_8 (v130, v133, v136, v142) _ ⟨hHeld, (RS HO134), (RS HO137), (RS HO143), (blkS BK127), (blkS BK128), (bS2 HB GE127 GE128)⟩)
      ·skip
       refine box_step ?hg (N := 3) ?hd (cs := #[.slice none 0 0, .slice none 0 0, .slice none 0 0, .slice none 0 0]) (t := 39) ?hr ?_; (case hd => rfl); (case hg => rfl); (case hr => first | (go_simp; done) | (go_simp; rfl))
       intro gb147 hg w14 hbox hb
       have BK147 := Aside0.mk (hbox)
       have GW147 := Aside0.mk ((by rw [hg]; exact (below_size (bS2 HB GE127 GE128)) : w.heap.size ≤ gb147))
       have GE147 := Aside0.mk ((by rw [hg]; exact (below_size (bS2 HB GE127 GE128)) : w.heap.size ≤ gb147))
       have NB127_147 := nLt BK127 hg
       have NB147_127 := nGt BK127 hg
       have NB128_147 := nLt BK128 hg
       have NB147_128 := nGt BK128 hg
       replace HO134 := Aside0.mk (Kd.R_below (RS HO134) hb)
       replace HO143 := Aside0.mk (Kd.R_below (RS HO143) hb)
       replace BK127 := bB BK127 hb
       replace BK128 := bB BK128 hb
       replace HB := Aside0.mk (below_step (bS2 HB GE127 GE128) hb)
       clear hb hbox hg
       refine hK.out _ _ (c4e BK127) (fun hHeld => ?_)
       clear hK K
       refine normS (N := (some 3)) ?_
       exact normJ (hJ0_3_8_13 (v130, v133, v142, gb147) _ ⟨hHeld, (RS HO134), (RS HO143), (blkS BK127), (blkS BK128), (blkS BK147), GW147.out, GE147.out, NB127_147.out, NB147_127.out, NB128_147.out, NB147_128.out, (bS3 HB GE127 GE128 GE147)⟩)
     refine join_ (σ := Value × Value × Nat) 6 #[true, true, true, true, false, true, true, false, false, true, true, false, false, true, false] (fun s_ => [(5, s_.1), (8, s_.2.1), (3, .pointer (some ⟨s_.2.2, 0, none⟩))]) (fun s_ w' => C4e w' gb127 (.slice A0_0 l0_0.length c0_0) (.slice A0_1 l0_1.length c0_1) (.slice A0_2 l0_2.length c0_2) (.slice A0_3 l0_3.length c0_3) ∧ (Kd.R k52 52 w' w.heap.size (fun _ => True) s_.2.1 y132) ∧ (w'.heap[gb127]? = some (.cells #[.slice A0_0 l0_0.length c0_0, .slice A0_1 l0_1.length c0_1, .slice A0_2 l0_2.length c0_2, .slice A0_3 l0_3.length c0_3] 39 (0, 0))) ∧ (w'.heap[gb128]? = some (.cells #[.slice none 0 0, .slice none 0 0, .slice none 0 0, .slice none 0 0] 39 (0, 0))) ∧ (w'.heap[s_.2.2]? = some (.cells #[.slice none 0 0, .slice none 0 0, .slice none 0 0, .slice none 0 0] 39 (0, 0))) ∧ (w.heap.size ≤ s_.2.2) ∧ (w.heap.size ≤ s_.2.2) ∧ (gb127 ≠ s_.2.2) ∧ (s_.2.2 ≠ gb127) ∧ (gb128 ≠ s_.2.2) ∧ (s_.2.2 ≠ gb128) ∧ (Below w.heap.size w w')) ?_ (fun hJ0_3_13 => ?_)
     ·clear BK127 BK128 HB
      rintro ⟨v130, v133, gb147⟩ w12 ⟨hHeld, h0_, h1_, h2_, h3_, h4_, h5_, h6_, h7_, h8_, h9_, h10_⟩
      have HO134 := Aside0.mk h0_; have BK127 := Aside0.mk h1_; have BK128 := Aside0.mk h2_; have BK147 := Aside0.mk h3_; have GW147 := Aside0.mk h4_; have GE147 := Aside0.mk h5_; have NB127_147 := Aside0.mk h6_; have NB147_127 := Aside0.mk h7_; have NB128_147 := Aside0.mk h8_; have NB147_128 := Aside0.mk h9_; have HB := Aside0.mk h10_
      clear h0_ h1_ h2_ h3_ h4_ h5_ h6_ h7_ h8_ h9_ h10_
      refine normP ?_
      refine twoS (i := 4) (j := 8) (Ni := some 9) (Nj := some 13) HT_ (fun K hK => ?_) (fun K hK => ?_)
      ·skip
       refine litE k97 97 (N := 9) ?_
       intro v136 w13 ho14 hb hg_ hnew_
       clear hg_ hnew_
       (first | rw [← Ny135.out] at ho14 | (simp only [Int.reduceToNat] at ho14; rw [← Ny135.out] at ho14))
       have HO137 := Aside0.mk (Kd.R_lower ho14 (below_size (bS3 HB GE127 GE128 GE147)))
       replace HO134 := Aside0.mk (Kd.R_below (RS HO134) hb)
       replace BK127 := bB BK127 hb
       replace BK128 := bB BK128 hb
       replace BK147 := bB BK147 hb
       replace HB := Aside0.mk (below_step (bS3 HB GE127 GE128 GE147) hb)
       clear hb ho14
       refine hK.out _ _ (c4e BK127) (fun hHeld => ?_)
       clear hK K
       refine normS (N := (some 9)) ?_
       exact normJ (hJ0_3_4_13 (v130, v133, v136, gb147) _ ⟨hHeld, (RS HO134), (RS HO137), (blkS BK127), (blkS BK128), (blkS BK147), GW147.out, GE147.out, NB127_147.out, NB147_127.out, NB128_147.out, NB147_128.out, (bS3 HB GE127 GE128 GE147)⟩)
      ·skip
       refine litE k111 111 (N := 13) ?_
       intro v142 w13 ho14 hb hg_ hnew_
       clear hg_ hnew_
       (first | rw [← Ny141.out] at ho14 | (simp only [Int.reduceToNat] at ho14; rw [← Ny141.out] at ho14))
       have HO143 := Aside0.mk (Kd.R_lower ho14 (below_size (bS3 HB GE127 GE128 GE147)))
       replace HO134 := Aside0.mk (Kd.R_below (RS HO134) hb)
       replace BK127 := bB BK127 hb
       replace BK128 := bB BK128 hb
       replace BK147 := bB BK147 hb
       replace HB := Aside0.mk (below_step (bS3 HB GE127 GE128 GE147) hb)
       clear hb ho14
       refine hK.out _ _ (c4e BK127) (fun hHeld => ?_)
       clear hK K
       refine normS (N := (some 13)) ?_
       exact normJ (hJ0_3_8_13 (v130, v133, v142, gb147) _ ⟨hHeld, (RS HO134), (RS HO143), (blkS BK127), (blkS BK128), (blkS BK147), GW147.out, GE147.out, NB127_147.out, NB147_127.out, NB128_147.out, NB147_128.out, (bS3 HB GE127 GE128 GE147)⟩)
     refine join_ (σ := Value × Value × Value) 6 #[true, true, true, false, true, true, true, false, true, true, true, false, false, false, false] (fun s_ => [(5, s_.1), (9, s_.2.1), (13, s_.2.2)]) (fun s_ w' => C4e w' gb127 (.slice A0_0 l0_0.length c0_0) (.slice A0_1 l0_1.length c0_1) (.slice A0_2 l0_2.length c0_2) (.slice A0_3 l0_3.length c0_3) ∧ (Kd.R k52 52 w' w.heap.size (fun _ => True) s_.1 y129) ∧ (Kd.R k97 97 w' w.heap.size (fun _ => True) s_.2.1 y135) ∧ (Kd.R k111 111 w' w.heap.size (fun _ => True) s_.2.2 y141) ∧ (w'.heap[gb127]? = some (.cells #[.slice A0_0 l0_0.length c0_0, .slice A0_1 l0_1.length c0_1, .slice A0_2 l0_2.length c0_2, .slice A0_3 l0_3.length c0_3] 39 (0, 0))) ∧ (w'.heap[gb128]? = some (.cells #[.slice none 0 0, .slice none 0 0, .slice none 0 0, .slice none 0 0] 39 (0, 0))) ∧ (Below w.heap.size w w')) ?_ (fun hJ0_4_8 => ?_)
     ·clear BK127 BK128 HB
      rintro ⟨v130, v136, v142⟩ w14 ⟨hHeld, h0_, h1_, h2_, h3_, h4_, h5_⟩
      have HO131 := Aside0.mk h0_; have HO137 := Aside0.mk h1_; have HO143 := Aside0.mk h2_; have BK127 := Aside0.mk h3_; have BK128 := Aside0.mk h4_; have HB := Aside0.mk h5_
      clear h0_ h1_ h2_ h3_ h4_ h5_
      refine normP ?_
      refine twoS (i := 3) (j := 13) (Ni := some 8) (Nj := some 3) HT_ (fun K hK => ?_) (fun K hK => ?_)
      ·skip
       refine Kd.R_append_rows_step k52 (w0 := w) w.heap.size (by rfl) (.tmp 5) (.tmp 7) 34 52 (.agg #[(.int .i64 0), (.int .i64 0), (.string ⟨#[]⟩)]) 32 rfl Try.underlying34 info52 rfl (by decide) (by omega) v130 y129 l0_0 _ _ _ (fun _ => True) (fun _ => False) rfl rfl ?aO ?aR (fun _ _ h => h) (fun _ h => h.elim) ?aF ?aB ?aS ?aL ?_
       (case aR => repeat (first | exact (Kd.C_below HR0_0.out HB.out) | (with_reducible refine Kd.C_alloc ?_ _) | (with_reducible refine Kd.C_drewN ?_ _) | (with_reducible refine Kd.C_drew ?_)))
       (case aB => exact (bS2 HB GE127 GE128))
       (case aF => exact (fun _ _ => trivial))
       (case aO => exact (RS HO131))
       (case aS => exact (below_size (bS2 HB GE127 GE128)))
       (case aL => have := LMc2.out; omega)
       intro v133 w15 ho hb hg hat
       rw [← Ny132.out] at ho
       replace BK127 := Aside0.mk (blk_grown (blkS BK127) hg (Kd.R_ne HO131.out BK127.out (by decide)))
       replace BK128 := Aside0.mk (blk_grown (blkS BK128) hg (Kd.R_ne HO131.out BK128.out (by decide)))
       replace HO137 := Aside0.mk (Kd.R_over' (RS HO137) (Kd.R_typed (RS HO131)) (by decide) hg)
       replace HO143 := Aside0.mk (Kd.R_over' (RS HO143) (Kd.R_typed (RS HO131)) (by decide) hg)
       replace HB := Aside0.mk (hb)
       have HO134 := Aside0.mk (ho)
       clear HO131 ho hb hg hat
       refine hK.out _ _ (c4e BK127) (fun hHeld => ?_)
       clear hK K
       refine normS (N := (some 8)) ?_
       exact normJ (hJ0_3_4_8 (v130, v133, v136, v142) _ ⟨hHeld, (RS HO134), (RS HO137), (RS HO143), (blkS BK127), (blkS BK128), (bS2 HB GE127 GE128)⟩)
      ·skip
       refine box_step ?hg (N := 3) ?hd (cs := #[.slice none 0 0, .slice none 0 0, .slice none 0 0, .slice none 0 0]) (t := 39) ?hr ?_; (case hd => rfl); (case hg => rfl); (case hr => first | (go_simp; done) | (go_simp; rfl))
       intro gb147 hg w15 hbox hb
       have BK147 := Aside0.mk (hbox)
       have GW147 := Aside0.mk ((by rw [hg]; exact (below_size (bS2 HB GE127 GE128)) : w.heap.size ≤ gb147))
       have GE147 := Aside0.mk ((by rw [hg]; exact (below_size (bS2 HB GE127 GE128)) : w.heap.size ≤ gb147))
       have NB127_147 := nLt BK127 hg
       have NB147_127 := nGt BK127 hg
       have NB128_147 := nLt BK128 hg
       have NB147_128 := nGt BK128 hg
       replace HO131 := Aside0.mk (Kd.R_below (RS HO131) hb)
       replace HO137 := Aside0.mk (Kd.R_below (RS HO137) hb)
       replace HO143 := Aside0.mk (Kd.R_below (RS HO143) hb)
       replace BK127 := bB BK127 hb
       replace BK128 := bB BK128 hb
       replace HB := Aside0.mk (below_step (bS2 HB GE127 GE128) hb)
       clear hb hbox hg
       refine hK.out _ _ (c4e BK127) (fun hHeld => ?_)
       clear hK K
       refine normS (N := (some 3)) ?_
       exact normJ (hJ0_4_8_13 (v130, v136, v142, gb147) _ ⟨hHeld, (RS HO131), (RS HO137), (RS HO143), (blkS BK127), (blkS BK128), (blkS BK147), GW147.out, GE147.out, NB127_147.out, NB147_127.out, NB128_147.out, NB147_128.out, (bS3 HB GE127 GE128 GE147)⟩)
     refine join_ (σ := Value × Value × Nat) 6 #[true, true, true, false, true, true, true, false, false, true, true, false, false, true, false] (fun s_ => [(5, s_.1), (9, s_.2.1), (3, .pointer (some ⟨s_.2.2, 0, none⟩))]) (fun s_ w' => C4e w' gb127 (.slice A0_0 l0_0.length c0_0) (.slice A0_1 l0_1.length c0_1) (.slice A0_2 l0_2.length c0_2) (.slice A0_3 l0_3.length c0_3) ∧ (Kd.R k52 52 w' w.heap.size (fun _ => True) s_.1 y129) ∧ (Kd.R k97 97 w' w.heap.size (fun _ => True) s_.2.1 y135) ∧ (w'.heap[gb127]? = some (.cells #[.slice A0_0 l0_0.length c0_0, .slice A0_1 l0_1.length c0_1, .slice A0_2 l0_2.length c0_2, .slice A0_3 l0_3.length c0_3] 39 (0, 0))) ∧ (w'.heap[gb128]? = some (.cells #[.slice none 0 0, .slice none 0 0, .slice none 0 0, .slice none 0 0] 39 (0, 0))) ∧ (w'.heap[s_.2.2]? = some (.cells #[.slice none 0 0, .slice none 0 0, .slice none 0 0, .slice none 0 0] 39 (0, 0))) ∧ (w.heap.size ≤ s_.2.2) ∧ (w.heap.size ≤ s_.2.2) ∧ (gb127 ≠ s_.2.2) ∧ (s_.2.2 ≠ gb127) ∧ (gb128 ≠ s_.2.2) ∧ (s_.2.2 ≠ gb128) ∧ (Below w.heap.size w w')) ?_ (fun hJ0_4_13 => ?_)
     ·clear BK127 BK128 HB
      rintro ⟨v130, v136, gb147⟩ w13 ⟨hHeld, h0_, h1_, h2_, h3_, h4_, h5_, h6_, h7_, h8_, h9_, h10_, h11_⟩
      have HO131 := Aside0.mk h0_; have HO137 := Aside0.mk h1_; have BK127 := Aside0.mk h2_; have BK128 := Aside0.mk h3_; have BK147 := Aside0.mk h4_; have GW147 := Aside0.mk h5_; have GE147 := Aside0.mk h6_; have NB127_147 := Aside0.mk h7_; have NB147_127 := Aside0.mk h8_; have NB128_147 := Aside0.mk h9_; have NB147_128 := Aside0.mk h10_; have HB := Aside0.mk h11_
      clear h0_ h1_ h2_ h3_ h4_ h5_ h6_ h7_ h8_ h9_ h10_ h11_
      refine normP ?_
      refine twoS (i := 3) (j := 8) (Ni := some 8) (Nj := some 13) HT_ (fun K hK => ?_) (fun K hK => ?_)
      ·skip
       refine Kd.R_append_rows_step k52 (w0 := w) w.heap.size (by rfl) (.tmp 5) (.tmp 7) 34 52 (.agg #[(.int .i64 0), (.int .i64 0), (.string ⟨#[]⟩)]) 32 rfl Try.underlying34 info52 rfl (by decide) (by omega) v130 y129 l0_0 _ _ _ (fun _ => True) (fun _ => False) rfl rfl ?aO ?aR (fun _ _ h => h) (fun _ h => h.elim) ?aF ?aB ?aS ?aL ?_
       (case aR => repeat (first | exact (Kd.C_below HR0_0.out HB.out) | (with_reducible refine Kd.C_alloc ?_ _) | (with_reducible refine Kd.C_drewN ?_ _) | (with_reducible refine Kd.C_drew ?_)))
       (case aB => exact (bS3 HB GE127 GE128 GE147))
       (case aF => exact (fun _ _ => trivial))
       (case aO => exact (RS HO131))
       (case aS => exact (below_size (bS3 HB GE127 GE128 GE147)))
       (case aL => have := LMc2.out; omega)
       intro v133 w14 ho hb hg hat
       rw [← Ny132.out] at ho
       replace BK127 := Aside0.mk (blk_grown (blkS BK127) hg (Kd.R_ne HO131.out BK127.out (by decide)))
       replace BK128 := Aside0.mk (blk_grown (blkS BK128) hg (Kd.R_ne HO131.out BK128.out (by decide)))
       replace HO137 := Aside0.mk (Kd.R_over' (RS HO137) (Kd.R_typed (RS HO131)) (by decide) hg)
       replace BK147 := Aside0.mk (blk_grown (blkS BK147) hg (Kd.R_ne HO131.out BK147.out (by decide)))
       replace HB := Aside0.mk (hb)
       have HO134 := Aside0.mk (ho)
       clear HO131 ho hb hg hat
       refine hK.out _ _ (c4e BK127) (fun hHeld => ?_)
       clear hK K
       refine normS (N := (some 8)) ?_
       exact normJ (hJ0_3_4_13 (v130, v133, v136, gb147) _ ⟨hHeld, (RS HO134), (RS HO137), (blkS BK127), (blkS BK128), (blkS BK147), GW147.out, GE147.out, NB127_147.out, NB147_127.out, NB128_147.out, NB147_128.out, (bS3 HB GE127 GE128 GE147)⟩)
      ·skip
       refine litE k111 111 (N := 13) ?_
       intro v142 w14 ho15 hb hg_ hnew_
       clear hg_ hnew_
       (first | rw [← Ny141.out] at ho15 | (simp only [Int.reduceToNat] at ho15; rw [← Ny141.out] at ho15))
       have HO143 := Aside0.mk (Kd.R_lower ho15 (below_size (bS3 HB GE127 GE128 GE147)))
       replace HO131 := Aside0.mk (Kd.R_below (RS HO131) hb)
       replace HO137 := Aside0.mk (Kd.R_below (RS HO137) hb)
       replace BK127 := bB BK127 hb
       replace BK128 := bB BK128 hb
       replace BK147 := bB BK147 hb
       replace HB := Aside0.mk (below_step (bS3 HB GE127 GE128 GE147) hb)
       clear hb ho15
       refine hK.out _ _ (c4e BK127) (fun hHeld => ?_)
       clear hK K
       refine normS (N := (some 13)) ?_
       exact normJ (hJ0_4_8_13 (v130, v136, v142, gb147) _ ⟨hHeld, (RS HO131), (RS HO137), (RS HO143), (blkS BK127), (blkS BK128), (blkS BK147), GW147.out, GE147.out, NB127_147.out, NB147_127.out, NB128_147.out, NB147_128.out, (bS3 HB GE127 GE128 GE147)⟩)
     refine join_ (σ := Value × Value × Nat) 6 #[true, true, true, false, false, true, true, false, true, true, true, false, false, true, false] (fun s_ => [(5, s_.1), (13, s_.2.1), (3, .pointer (some ⟨s_.2.2, 0, none⟩))]) (fun s_ w' => C4e w' gb127 (.slice A0_0 l0_0.length c0_0) (.slice A0_1 l0_1.length c0_1) (.slice A0_2 l0_2.length c0_2) (.slice A0_3 l0_3.length c0_3) ∧ (Kd.R k52 52 w' w.heap.size (fun _ => True) s_.1 y129) ∧ (Kd.R k111 111 w' w.heap.size (fun _ => True) s_.2.1 y141) ∧ (w'.heap[gb127]? = some (.cells #[.slice A0_0 l0_0.length c0_0, .slice A0_1 l0_1.length c0_1, .slice A0_2 l0_2.length c0_2, .slice A0_3 l0_3.length c0_3] 39 (0, 0))) ∧ (w'.heap[gb128]? = some (.cells #[.slice none 0 0, .slice none 0 0, .slice none 0 0, .slice none 0 0] 39 (0, 0))) ∧ (w'.heap[s_.2.2]? = some (.cells #[.slice none 0 0, .slice none 0 0, .slice none 0 0, .slice none 0 0] 39 (0, 0))) ∧ (w.heap.size ≤ s_.2.2) ∧ (w.heap.size ≤ s_.2.2) ∧ (gb127 ≠ s_.2.2) ∧ (s_.2.2 ≠ gb127) ∧ (gb128 ≠ s_.2.2) ∧ (s_.2.2 ≠ gb128) ∧ (Below w.heap.size w w')) ?_ (fun hJ0_8_13 => ?_)
     ·clear BK127 BK128 HB
      rintro ⟨v130, v142, gb147⟩ w13 ⟨hHeld, h0_, h1_, h2_, h3_, h4_, h5_, h6_, h7_, h8_, h9_, h10_, h11_⟩
      have HO131 := Aside0.mk h0_; have HO143 := Aside0.mk h1_; have BK127 := Aside0.mk h2_; have BK128 := Aside0.mk h3_; have BK147 := Aside0.mk h4_; have GW147 := Aside0.mk h5_; have GE147 := Aside0.mk h6_; have NB127_147 := Aside0.mk h7_; have NB147_127 := Aside0.mk h8_; have NB128_147 := Aside0.mk h9_; have NB147_128 := Aside0.mk h10_; have HB := Aside0.mk h11_
      clear h0_ h1_ h2_ h3_ h4_ h5_ h6_ h7_ h8_ h9_ h10_ h11_
      refine normP ?_
      refine twoS (i := 3) (j := 4) (Ni := some 8) (Nj := some 9) HT_ (fun K hK => ?_) (fun K hK => ?_)
      ·skip
       refine Kd.R_append_rows_step k52 (w0 := w) w.heap.size (by rfl) (.tmp 5) (.tmp 7) 34 52 (.agg #[(.int .i64 0), (.int .i64 0), (.string ⟨#[]⟩)]) 32 rfl Try.underlying34 info52 rfl (by decide) (by omega) v130 y129 l0_0 _ _ _ (fun _ => True) (fun _ => False) rfl rfl ?aO ?aR (fun _ _ h => h) (fun _ h => h.elim) ?aF ?aB ?aS ?aL ?_
       (case aR => repeat (first | exact (Kd.C_below HR0_0.out HB.out) | (with_reducible refine Kd.C_alloc ?_ _) | (with_reducible refine Kd.C_drewN ?_ _) | (with_reducible refine Kd.C_drew ?_)))
       (case aB => exact (bS3 HB GE127 GE128 GE147))
       (case aF => exact (fun _ _ => trivial))
       (case aO => exact (RS HO131))
       (case aS => exact (below_size (bS3 HB GE127 GE128 GE147)))
       (case aL => have := LMc2.out; omega)
       intro v133 w14 ho hb hg hat
       rw [← Ny132.out] at ho
       replace BK127 := Aside0.mk (blk_grown (blkS BK127) hg (Kd.R_ne HO131.out BK127.out (by decide)))
       replace BK128 := Aside0.mk (blk_grown (blkS BK128) hg (Kd.R_ne HO131.out BK128.out (by decide)))
       replace HO143 := Aside0.mk (Kd.R_over' (RS HO143) (Kd.R_typed (RS HO131)) (by decide) hg)
       replace BK147 := Aside0.mk (blk_grown (blkS BK147) hg (Kd.R_ne HO131.out BK147.out (by decide)))
       replace HB := Aside0.mk (hb)
       have HO134 := Aside0.mk (ho)
       clear HO131 ho hb hg hat
       refine hK.out _ _ (c4e BK127) (fun hHeld => ?_)
       clear hK K
       refine normS (N := (some 8)) ?_
       exact normJ (hJ0_3_8_13 (v130, v133, v142, gb147) _ ⟨hHeld, (RS HO134), (RS HO143), (blkS BK127), (blkS BK128), (blkS BK147), GW147.out, GE147.out, NB127_147.out, NB147_127.out, NB128_147.out, NB147_128.out, (bS3 HB GE127 GE128 GE147)⟩)
      ·skip
       refine litE k97 97 (N := 9) ?_
       intro v136 w14 ho15 hb hg_ hnew_
       clear hg_ hnew_
       (first | rw [← Ny135.out] at ho15 | (simp only [Int.reduceToNat] at ho15; rw [← Ny135.out] at ho15))
       have HO137 := Aside0.mk (Kd.R_lower ho15 (below_size (bS3 HB GE127 GE128 GE147)))
       replace HO131 := Aside0.mk (Kd.R_below (RS HO131) hb)
       replace HO143 := Aside0.mk (Kd.R_below (RS HO143) hb)
       replace BK127 := bB BK127 hb
       replace BK128 := bB BK128 hb
       replace BK147 := bB BK147 hb
       replace HB := Aside0.mk (below_step (bS3 HB GE127 GE128 GE147) hb)
       clear hb ho15
       refine hK.out _ _ (c4e BK127) (fun hHeld => ?_)
       clear hK K
       refine normS (N := (some 9)) ?_
       exact normJ (hJ0_4_8_13 (v130, v136, v142, gb147) _ ⟨hHeld, (RS HO131), (RS HO137), (RS HO143), (blkS BK127), (blkS BK128), (blkS BK147), GW147.out, GE147.out, NB127_147.out, NB147_127.out, NB128_147.out, NB147_128.out, (bS3 HB GE127 GE128 GE147)⟩)
     refine join_ (σ := Value × Value × Nat) 6 #[false, true, true, false, true, true, true, false, true, true, true, false, false, true, false] (fun s_ => [(9, s_.1), (13, s_.2.1), (3, .pointer (some ⟨s_.2.2, 0, none⟩))]) (fun s_ w' => C4e w' gb127 (.slice A0_0 l0_0.length c0_0) (.slice A0_1 l0_1.length c0_1) (.slice A0_2 l0_2.length c0_2) (.slice A0_3 l0_3.length c0_3) ∧ (Kd.R k97 97 w' w.heap.size (fun _ => True) s_.1 y135) ∧ (Kd.R k111 111 w' w.heap.size (fun _ => True) s_.2.1 y141) ∧ (w'.heap[gb127]? = some (.cells #[.slice A0_0 l0_0.length c0_0, .slice A0_1 l0_1.length c0_1, .slice A0_2 l0_2.length c0_2, .slice A0_3 l0_3.length c0_3] 39 (0, 0))) ∧ (w'.heap[gb128]? = some (.cells #[.slice none 0 0, .slice none 0 0, .slice none 0 0, .slice none 0 0] 39 (0, 0))) ∧ (w'.heap[s_.2.2]? = some (.cells #[.slice none 0 0, .slice none 0 0, .slice none 0 0, .slice none 0 0] 39 (0, 0))) ∧ (w.heap.size ≤ s_.2.2) ∧ (w.heap.size ≤ s_.2.2) ∧ (gb127 ≠ s_.2.2) ∧ (s_.2.2 ≠ gb127) ∧ (gb128 ≠ s_.2.2) ∧ (s_.2.2 ≠ gb128) ∧ (Below w.heap.size w w')) ?_ (fun hJ4_8_13 => ?_)
     ·clear BK127 BK128 HB
      rintro ⟨v136, v142, gb147⟩ w13 ⟨hHeld, h0_, h1_, h2_, h3_, h4_, h5_, h6_, h7_, h8_, h9_, h10_, h11_⟩
      have HO137 := Aside0.mk h0_; have HO143 := Aside0.mk h1_; have BK127 := Aside0.mk h2_; have BK128 := Aside0.mk h3_; have BK147 := Aside0.mk h4_; have GW147 := Aside0.mk h5_; have GE147 := Aside0.mk h6_; have NB127_147 := Aside0.mk h7_; have NB147_127 := Aside0.mk h8_; have NB128_147 := Aside0.mk h9_; have NB147_128 := Aside0.mk h10_; have HB := Aside0.mk h11_
      clear h0_ h1_ h2_ h3_ h4_ h5_ h6_ h7_ h8_ h9_ h10_ h11_
      refine normP ?_
      refine oneS (i := 0) (N := some 5) HT_ (fun K hK => ?_)
      refine litE k52 52 (N := 5) ?_
      intro v130 w14 ho15 hb hg_ hnew_
      clear hg_ hnew_
      (first | rw [← Ny129.out] at ho15 | (simp only [Int.reduceToNat] at ho15; rw [← Ny129.out] at ho15))
      have HO131 := Aside0.mk (Kd.R_lower ho15 (below_size (bS3 HB GE127 GE128 GE147)))
      replace HO137 := Aside0.mk (Kd.R_below (RS HO137) hb)
      replace HO143 := Aside0.mk (Kd.R_below (RS HO143) hb)
      replace BK127 := bB BK127 hb
      replace BK128 := bB BK128 hb
      replace BK147 := bB BK147 hb
      replace HB := Aside0.mk (below_step (bS3 HB GE127 GE128 GE147) hb)
      clear hb ho15
      refine hK.out _ _ (c4e BK127) (fun hHeld => ?_)
      clear hK K
      refine normS (N := (some 5)) ?_
      exact normJ (hJ0_4_8_13 (v130, v136, v142, gb147) _ ⟨hHeld, (RS HO131), (RS HO137), (RS HO143), (blkS BK127), (blkS BK128), (blkS BK147), GW147.out, GE147.out, NB127_147.out, NB147_127.out, NB128_147.out, NB147_128.out, (bS3 HB GE127 GE128 GE147)⟩)
     refine join_ (σ := Value × Value) 7 #[true, true, true, true, false, true, true, false, false, true, true, false, false, false, false] (fun s_ => [(5, s_.1), (8, s_.2)]) (fun s_ w' => C4e w' gb127 (.slice A0_0 l0_0.length c0_0) (.slice A0_1 l0_1.length c0_1) (.slice A0_2 l0_2.length c0_2) (.slice A0_3 l0_3.length c0_3) ∧ (Kd.R k52 52 w' w.heap.size (fun _ => True) s_.2 y132) ∧ (w'.heap[gb127]? = some (.cells #[.slice A0_0 l0_0.length c0_0, .slice A0_1 l0_1.length c0_1, .slice A0_2 l0_2.length c0_2, .slice A0_3 l0_3.length c0_3] 39 (0, 0))) ∧ (w'.heap[gb128]? = some (.cells #[.slice none 0 0, .slice none 0 0, .slice none 0 0, .slice none 0 0] 39 (0, 0))) ∧ (Below w.heap.size w w')) ?_ (fun hJ0_3 => ?_)
     ·clear BK127 BK128 HB
      rintro ⟨v130, v133⟩ w11 ⟨hHeld, h0_, h1_, h2_, h3_⟩
      have HO134 := Aside0.mk h0_; have BK127 := Aside0.mk h1_; have BK128 := Aside0.mk h2_; have HB := Aside0.mk h3_
      clear h0_ h1_ h2_ h3_
      refine normP ?_
      refine threeS (i := 4) (j := 8) (k := 13) (Ni := some 9) (Nj := some 13) (Nk := some 3) HT_ (fun K hK => ?_) (fun K hK => ?_) (fun K hK => ?_)
      ·skip
       refine litE k97 97 (N := 9) ?_
       intro v136 w12 ho13 hb hg_ hnew_
       clear hg_ hnew_
       (first | rw [← Ny135.out] at ho13 | (simp only [Int.reduceToNat] at ho13; rw [← Ny135.out] at ho13))
       have HO137 := Aside0.mk (Kd.R_lower ho13 (below_size (bS2 HB GE127 GE128)))
       replace HO134 := Aside0.mk (Kd.R_below (RS HO134) hb)
       replace BK127 := bB BK127 hb
       replace BK128 := bB BK128 hb
       replace HB := Aside0.mk (below_step (bS2 HB GE127 GE128) hb)
       clear hb ho13
       refine hK.out _ _ (c4e BK127) (fun hHeld => ?_)
       clear hK K
       refine normS (N := (some 9)) ?_
       exact normJ (hJ0_3_4 (v130, v133, v136) _ ⟨hHeld, (RS HO134), (RS HO137), (blkS BK127), (blkS BK128), (bS2 HB GE127 GE128)⟩)
      ·skip
       refine litE k111 111 (N := 13) ?_
       intro v142 w12 ho13 hb hg_ hnew_
       clear hg_ hnew_
       (first | rw [← Ny141.out] at ho13 | (simp only [Int.reduceToNat] at ho13; rw [← Ny141.out] at ho13))
       have HO143 := Aside0.mk (Kd.R_lower ho13 (below_size (bS2 HB GE127 GE128)))
       replace HO134 := Aside0.mk (Kd.R_below (RS HO134) hb)
       replace BK127 := bB BK127 hb
       replace BK128 := bB BK128 hb
       replace HB := Aside0.mk (below_step (bS2 HB GE127 GE128) hb)
       clear hb ho13
       refine hK.out _ _ (c4e BK127) (fun hHeld => ?_)
       clear hK K
       refine normS (N := (some 13)) ?_
       exact normJ (hJ0_3_8 (v130, v133, v142) _ ⟨hHeld, (RS HO134), (RS HO143), (blkS BK127), (blkS BK128), (bS2 HB GE127 GE128)⟩)
      ·skip
       refine box_step ?hg (N := 3) ?hd (cs := #[.slice none 0 0, .slice none 0 0, .slice none 0 0, .slice none 0 0]) (t := 39) ?hr ?_; (case hd => rfl); (case hg => rfl); (case hr => first | (go_simp; done) | (go_simp; rfl))
       intro gb147 hg w12 hbox hb
       have BK147 := Aside0.mk (hbox)
       have GW147 := Aside0.mk ((by rw [hg]; exact (below_size (bS2 HB GE127 GE128)) : w.heap.size ≤ gb147))
       have GE147 := Aside0.mk ((by rw [hg]; exact (below_size (bS2 HB GE127 GE128)) : w.heap.size ≤ gb147))
       have NB127_147 := nLt BK127 hg
       have NB147_127 := nGt BK127 hg
       have NB128_147 := nLt BK128 hg
       have NB147_128 := nGt BK128 hg
       replace HO134 := Aside0.mk (Kd.R_below (RS HO134) hb)
       replace BK127 := bB BK127 hb
       replace BK128 := bB BK128 hb
       replace HB := Aside0.mk (below_step (bS2 HB GE127 GE128) hb)
       clear hb hbox hg
       refine hK.out _ _ (c4e BK127) (fun hHeld => ?_)
       clear hK K
       refine normS (N := (some 3)) ?_
       exact normJ (hJ0_3_13 (v130, v133, gb147) _ ⟨hHeld, (RS HO134), (blkS BK127), (blkS BK128), (blkS BK147), GW147.out, GE147.out, NB127_147.out, NB147_127.out, NB128_147.out, NB147_128.out, (bS3 HB GE127 GE128 GE147)⟩)
     refine join_ (σ := Value × Value) 7 #[true, true, true, false, true, true, true, false, false, true, true, false, false, false, false] (fun s_ => [(5, s_.1), (9, s_.2)]) (fun s_ w' => C4e w' gb127 (.slice A0_0 l0_0.length c0_0) (.slice A0_1 l0_1.length c0_1) (.slice A0_2 l0_2.length c0_2) (.slice A0_3 l0_3.length c0_3) ∧ (Kd.R k52 52 w' w.heap.size (fun _ => True) s_.1 y129) ∧ (Kd.R k97 97 w' w.heap.size (fun _ => True) s_.2 y135) ∧ (w'.heap[gb127]? = some (.cells #[.slice A0_0 l0_0.length c0_0, .slice A0_1 l0_1.length c0_1, .slice A0_2 l0_2.length c0_2, .slice A0_3 l0_3.length c0_3] 39 (0, 0))) ∧ (w'.heap[gb128]? = some (.cells #[.slice none 0 0, .slice none 0 0, .slice none 0 0, .slice none 0 0] 39 (0, 0))) ∧ (Below w.heap.size w w')) ?_ (fun hJ0_4 => ?_)
     ·clear BK127 BK128 HB
      rintro ⟨v130, v136⟩ w12 ⟨hHeld, h0_, h1_, h2_, h3_, h4_⟩
      have HO131 := Aside0.mk h0_; have HO137 := Aside0.mk h1_; have BK127 := Aside0.mk h2_; have BK128 := Aside0.mk h3_; have HB := Aside0.mk h4_
      clear h0_ h1_ h2_ h3_ h4_
      refine normP ?_
      refine threeS (i := 3) (j := 8) (k := 13) (Ni := some 8) (Nj := some 13) (Nk := some 3) HT_ (fun K hK => ?_) (fun K hK => ?_) (fun K hK => ?_)
      ·skip
       refine Kd.R_append_rows_step k52 (w0 := w) w.heap.size (by rfl) (.tmp 5) (.tmp 7) 34 52 (.agg #[(.int .i64 0), (.int .i64 0), (.string ⟨#[]⟩)]) 32 rfl Try.underlying34 info52 rfl (by decide) (by omega) v130 y129 l0_0 _ _ _ (fun _ => True) (fun _ => False) rfl rfl ?aO ?aR (fun _ _ h => h) (fun _ h => h.elim) ?aF ?aB ?aS ?aL ?_
       (case aR => repeat (first | exact (Kd.C_below HR0_0.out HB.out) | (with_reducible refine Kd.C_alloc ?_ _) | (with_reducible refine Kd.C_drewN ?_ _) | (with_reducible refine Kd.C_drew ?_)))
       (case aB => exact (bS2 HB GE127 GE128))
       (case aF => exact (fun _ _ => trivial))
       (case aO => exact (RS HO131))
       (case aS => exact (below_size (bS2 HB GE127 GE128)))
       (case aL => have := LMc2.out; omega)
       intro v133 w13 ho hb hg hat
       rw [← Ny132.out] at ho
       replace BK127 := Aside0.mk (blk_grown (blkS BK127) hg (Kd.R_ne HO131.out BK127.out (by decide)))
       replace BK128 := Aside0.mk (blk_grown (blkS BK128) hg (Kd.R_ne HO131.out BK128.out (by decide)))
       replace HO137 := Aside0.mk (Kd.R_over' (RS HO137) (Kd.R_typed (RS HO131)) (by decide) hg)
       replace HB := Aside0.mk (hb)
       have HO134 := Aside0.mk (ho)
       clear HO131 ho hb hg hat
       refine hK.out _ _ (c4e BK127) (fun hHeld => ?_)
       clear hK K
       refine normS (N := (some 8)) ?_
       exact normJ (hJ0_3_4 (v130, v133, v136) _ ⟨hHeld, (RS HO134), (RS HO137), (blkS BK127), (blkS BK128), (bS2 HB GE127 GE128)⟩)
      ·skip
       refine litE k111 111 (N := 13) ?_
       intro v142 w13 ho14 hb hg_ hnew_
       clear hg_ hnew_
       (first | rw [← Ny141.out] at ho14 | (simp only [Int.reduceToNat] at ho14; rw [← Ny141.out] at ho14))
       have HO143 := Aside0.mk (Kd.R_lower ho14 (below_size (bS2 HB GE127 GE128)))
       replace HO131 := Aside0.mk (Kd.R_below (RS HO131) hb)
       replace HO137 := Aside0.mk (Kd.R_below (RS HO137) hb)
       replace BK127 := bB BK127 hb
       replace BK128 := bB BK128 hb
       replace HB := Aside0.mk (below_step (bS2 HB GE127 GE128) hb)
       clear hb ho14
       refine hK.out _ _ (c4e BK127) (fun hHeld => ?_)
       clear hK K
       refine normS (N := (some 13)) ?_
       exact normJ (hJ0_4_8 (v130, v136, v142) _ ⟨hHeld, (RS HO131), (RS HO137), (RS HO143), (blkS BK127), (blkS BK128), (bS2 HB GE127 GE128)⟩)
      ·skip
       refine box_step ?hg (N := 3) ?hd (cs := #[.slice none 0 0, .slice none 0 0, .slice none 0 0, .slice none 0 0]) (t := 39) ?hr ?_; (case hd => rfl); (case hg => rfl); (case hr => first | (go_simp; done) | (go_simp; rfl))
       intro gb147 hg w13 hbox hb
       have BK147 := Aside0.mk (hbox)
       have GW147 := Aside0.mk ((by rw [hg]; exact (below_size (bS2 HB GE127 GE128)) : w.heap.size ≤ gb147))
       have GE147 := Aside0.mk ((by rw [hg]; exact (below_size (bS2 HB GE127 GE128)) : w.heap.size ≤ gb147))
       have NB127_147 := nLt BK127 hg
       have NB147_127 := nGt BK127 hg
       have NB128_147 := nLt BK128 hg
       have NB147_128 := nGt BK128 hg
       replace HO131 := Aside0.mk (Kd.R_below (RS HO131) hb)
       replace HO137 := Aside0.mk (Kd.R_below (RS HO137) hb)
       replace BK127 := bB BK127 hb
       replace BK128 := bB BK128 hb
       replace HB := Aside0.mk (below_step (bS2 HB GE127 GE128) hb)
       clear hb hbox hg
       refine hK.out _ _ (c4e BK127) (fun hHeld => ?_)
       clear hK K
       refine normS (N := (some 3)) ?_
       exact normJ (hJ0_4_13 (v130, v136, gb147) _ ⟨hHeld, (RS HO131), (RS HO137), (blkS BK127), (blkS BK128), (blkS BK147), GW147.out, GE147.out, NB127_147.out, NB147_127.out, NB128_147.out, NB147_128.out, (bS3 HB GE127 GE128 GE147)⟩)
     refine join_ (σ := Value × Value) 7 #[true, true, true, false, false, true, true, false, true, true, true, false, false, false, false] (fun s_ => [(5, s_.1), (13, s_.2)]) (fun s_ w' => C4e w' gb127 (.slice A0_0 l0_0.length c0_0) (.slice A0_1 l0_1.length c0_1) (.slice A0_2 l0_2.length c0_2) (.slice A0_3 l0_3.length c0_3) ∧ (Kd.R k52 52 w' w.heap.size (fun _ => True) s_.1 y129) ∧ (Kd.R k111 111 w' w.heap.size (fun _ => True) s_.2 y141) ∧ (w'.heap[gb127]? = some (.cells #[.slice A0_0 l0_0.length c0_0, .slice A0_1 l0_1.length c0_1, .slice A0_2 l0_2.length c0_2, .slice A0_3 l0_3.length c0_3] 39 (0, 0))) ∧ (w'.heap[gb128]? = some (.cells #[.slice none 0 0, .slice none 0 0, .slice none 0 0, .slice none 0 0] 39 (0, 0))) ∧ (Below w.heap.size w w')) ?_ (fun hJ0_8 => ?_)
     ·clear BK127 BK128 HB
      rintro ⟨v130, v142⟩ w12 ⟨hHeld, h0_, h1_, h2_, h3_, h4_⟩
      have HO131 := Aside0.mk h0_; have HO143 := Aside0.mk h1_; have BK127 := Aside0.mk h2_; have BK128 := Aside0.mk h3_; have HB := Aside0.mk h4_
      clear h0_ h1_ h2_ h3_ h4_
      refine normP ?_
      refine threeS (i := 3) (j := 4) (k := 13) (Ni := some 8) (Nj := some 9) (Nk := some 3) HT_ (fun K hK => ?_) (fun K hK => ?_) (fun K hK => ?_)
      ·skip
       refine Kd.R_append_rows_step k52 (w0 := w) w.heap.size (by rfl) (.tmp 5) (.tmp 7) 34 52 (.agg #[(.int .i64 0), (.int .i64 0), (.string ⟨#[]⟩)]) 32 rfl Try.underlying34 info52 rfl (by decide) (by omega) v130 y129 l0_0 _ _ _ (fun _ => True) (fun _ => False) rfl rfl ?aO ?aR (fun _ _ h => h) (fun _ h => h.elim) ?aF ?aB ?aS ?aL ?_
       (case aR => repeat (first | exact (Kd.C_below HR0_0.out HB.out) | (with_reducible refine Kd.C_alloc ?_ _) | (with_reducible refine Kd.C_drewN ?_ _) | (with_reducible refine Kd.C_drew ?_)))
       (case aB => exact (bS2 HB GE127 GE128))
       (case aF => exact (fun _ _ => trivial))
       (case aO => exact (RS HO131))
       (case aS => exact (below_size (bS2 HB GE127 GE128)))
       (case aL => have := LMc2.out; omega)
       intro v133 w13 ho hb hg hat
       rw [← Ny132.out] at ho
       replace BK127 := Aside0.mk (blk_grown (blkS BK127) hg (Kd.R_ne HO131.out BK127.out (by decide)))
       replace BK128 := Aside0.mk (blk_grown (blkS BK128) hg (Kd.R_ne HO131.out BK128.out (by decide)))
       replace HO143 := Aside0.mk (Kd.R_over' (RS HO143) (Kd.R_typed (RS HO131)) (by decide) hg)
       replace HB := Aside0.mk (hb)
       have HO134 := Aside0.mk (ho)
       clear HO131 ho hb hg hat
       refine hK.out _ _ (c4e BK127) (fun hHeld => ?_)
       clear hK K
       refine normS (N := (some 8)) ?_
       exact normJ (hJ0_3_8 (v130, v133, v142) _ ⟨hHeld, (RS HO134), (RS HO143), (blkS BK127), (blkS BK128), (bS2 HB GE127 GE128)⟩)
      ·skip
       refine litE k97 97 (N := 9) ?_
       intro v136 w13 ho14 hb hg_ hnew_
       clear hg_ hnew_
       (first | rw [← Ny135.out] at ho14 | (simp only [Int.reduceToNat] at ho14; rw [← Ny135.out] at ho14))
       have HO137 := Aside0.mk (Kd.R_lower ho14 (below_size (bS2 HB GE127 GE128)))
       replace HO131 := Aside0.mk (Kd.R_below (RS HO131) hb)
       replace HO143 := Aside0.mk (Kd.R_below (RS HO143) hb)
       replace BK127 := bB BK127 hb
       replace BK128 := bB BK128 hb
       replace HB := Aside0.mk (below_step (bS2 HB GE127 GE128) hb)
       clear hb ho14
       refine hK.out _ _ (c4e BK127) (fun hHeld => ?_)
       clear hK K
       refine normS (N := (some 9)) ?_
       exact normJ (hJ0_4_8 (v130, v136, v142) _ ⟨hHeld, (RS HO131), (RS HO137), (RS HO143), (blkS BK127), (blkS BK128), (bS2 HB GE127 GE128)⟩)
      ·skip
       refine box_step ?hg (N := 3) ?hd (cs := #[.slice none 0 0, .slice none 0 0, .slice none 0 0, .slice none 0 0]) (t := 39) ?hr ?_; (case hd => rfl); (case hg => rfl); (case hr => first | (go_simp; done) | (go_simp; rfl))
       intro gb147 hg w13 hbox hb
       have BK147 := Aside0.mk (hbox)
       have GW147 := Aside0.mk ((by rw [hg]; exact (below_size (bS2 HB GE127 GE128)) : w.heap.size ≤ gb147))
       have GE147 := Aside0.mk ((by rw [hg]; exact (below_size (bS2 HB GE127 GE128)) : w.heap.size ≤ gb147))
       have NB127_147 := nLt BK127 hg
       have NB147_127 := nGt BK127 hg
       have NB128_147 := nLt BK128 hg
       have NB147_128 := nGt BK128 hg
       replace HO131 := Aside0.mk (Kd.R_below (RS HO131) hb)
       replace HO143 := Aside0.mk (Kd.R_below (RS HO143) hb)
       replace BK127 := bB BK127 hb
       replace BK128 := bB BK128 hb
       replace HB := Aside0.mk (below_step (bS2 HB GE127 GE128) hb)
       clear hb hbox hg
       refine hK.out _ _ (c4e BK127) (fun hHeld => ?_)
       clear hK K
       refine normS (N := (some 3)) ?_
       exact normJ (hJ0_8_13 (v130, v142, gb147) _ ⟨hHeld, (RS HO131), (RS HO143), (blkS BK127), (blkS BK128), (blkS BK147), GW147.out, GE147.out, NB127_147.out, NB147_127.out, NB128_147.out, NB147_128.out, (bS3 HB GE127 GE128 GE147)⟩)
     refine join_ (σ := Value × Nat) 7 #[true, true, true, false, false, true, true, false, false, true, true, false, false, true, false] (fun s_ => [(5, s_.1), (3, .pointer (some ⟨s_.2, 0, none⟩))]) (fun s_ w' => C4e w' gb127 (.slice A0_0 l0_0.length c0_0) (.slice A0_1 l0_1.length c0_1) (.slice A0_2 l0_2.length c0_2) (.slice A0_3 l0_3.length c0_3) ∧ (Kd.R k52 52 w' w.heap.size (fun _ => True) s_.1 y129) ∧ (w'.heap[gb127]? = some (.cells #[.slice A0_0 l0_0.length c0_0, .slice A0_1 l0_1.length c0_1, .slice A0_2 l0_2.length c0_2, .slice A0_3 l0_3.length c0_3] 39 (0, 0))) ∧ (w'.heap[gb128]? = some (.cells #[.slice none 0 0, .slice none 0 0, .slice none 0 0, .slice none 0 0] 39 (0, 0))) ∧ (w'.heap[s_.2]? = some (.cells #[.slice none 0 0, .slice none 0 0, .slice none 0 0, .slice none 0 0] 39 (0, 0))) ∧ (w.heap.size ≤ s_.2) ∧ (w.heap.size ≤ s_.2) ∧ (gb127 ≠ s_.2) ∧ (s_.2 ≠ gb127) ∧ (gb128 ≠ s_.2) ∧ (s_.2 ≠ gb128) ∧ (Below w.heap.size w w')) ?_ (fun hJ0_13 => ?_)
     ·clear BK127 BK128 HB
      rintro ⟨v130, gb147⟩ w11 ⟨hHeld, h0_, h1_, h2_, h3_, h4_, h5_, h6_, h7_, h8_, h9_, h10_⟩
      have HO131 := Aside0.mk h0_; have BK127 := Aside0.mk h1_; have BK128 := Aside0.mk h2_; have BK147 := Aside0.mk h3_; have GW147 := Aside0.mk h4_; have GE147 := Aside0.mk h5_; have NB127_147 := Aside0.mk h6_; have NB147_127 := Aside0.mk h7_; have NB128_147 := Aside0.mk h8_; have NB147_128 := Aside0.mk h9_; have HB := Aside0.mk h10_
      clear h0_ h1_ h2_ h3_ h4_ h5_ h6_ h7_ h8_ h9_ h10_
      refine normP ?_
      refine threeS (i := 3) (j := 4) (k := 8) (Ni := some 8) (Nj := some 9) (Nk := some 13) HT_ (fun K hK => ?_) (fun K hK => ?_) (fun K hK => ?_)
      ·skip
       refine Kd.R_append_rows_step k52 (w0 := w) w.heap.size (by rfl) (.tmp 5) (.tmp 7) 34 52 (.agg #[(.int .i64 0), (.int .i64 0), (.string ⟨#[]⟩)]) 32 rfl Try.underlying34 info52 rfl (by decide) (by omega) v130 y129 l0_0 _ _ _ (fun _ => True) (fun _ => False) rfl rfl ?aO ?aR (fun _ _ h => h) (fun _ h => h.elim) ?aF ?aB ?aS ?aL ?_
       (case aR => repeat (first | exact (Kd.C_below HR0_0.out HB.out) | (with_reducible refine Kd.C_alloc ?_ _) | (with_reducible refine Kd.C_drewN ?_ _) | (with_reducible refine Kd.C_drew ?_)))
       (case aB => exact (bS3 HB GE127 GE128 GE147))
       (case aF => exact (fun _ _ => trivial))
       (case aO => exact (RS HO131))
       (case aS => exact (below_size (bS3 HB GE127 GE128 GE147)))
       (case aL => have := LMc2.out; omega)
       intro v133 w12 ho hb hg hat
       rw [← Ny132.out] at ho
       replace BK127 := Aside0.mk (blk_grown (blkS BK127) hg (Kd.R_ne HO131.out BK127.out (by decide)))
       replace BK128 := Aside0.mk (blk_grown (blkS BK128) hg (Kd.R_ne HO131.out BK128.out (by decide)))
       replace BK147 := Aside0.mk (blk_grown (blkS BK147) hg (Kd.R_ne HO131.out BK147.out (by decide)))
       replace HB := Aside0.mk (hb)
       have HO134 := Aside0.mk (ho)
       clear HO131 ho hb hg hat
       refine hK.out _ _ (c4e BK127) (fun hHeld => ?_)
       clear hK K
       refine normS (N := (some 8)) ?_
       exact normJ (hJ0_3_13 (v130, v133, gb147) _ ⟨hHeld, (RS HO134), (blkS BK127), (blkS BK128), (blkS BK147), GW147.out, GE147.out, NB127_147.out, NB147_127.out, NB128_147.out, NB147_128.out, (bS3 HB GE127 GE128 GE147)⟩)
      ·skip
       refine litE k97 97 (N := 9) ?_
       intro v136 w12 ho13 hb hg_ hnew_
       clear hg_ hnew_
       (first | rw [← Ny135.out] at ho13 | (simp only [Int.reduceToNat] at ho13; rw [← Ny135.out] at ho13))
       have HO137 := Aside0.mk (Kd.R_lower ho13 (below_size (bS3 HB GE127 GE128 GE147)))
       replace HO131 := Aside0.mk (Kd.R_below (RS HO131) hb)
       replace BK127 := bB BK127 hb
       replace BK128 := bB BK128 hb
       replace BK147 := bB BK147 hb
       replace HB := Aside0.mk (below_step (bS3 HB GE127 GE128 GE147) hb)
       clear hb ho13
       refine hK.out _ _ (c4e BK127) (fun hHeld => ?_)
       clear hK K
       refine normS (N := (some 9)) ?_
       exact normJ (hJ0_4_13 (v130, v136, gb147) _ ⟨hHeld, (RS HO131), (RS HO137), (blkS BK127), (blkS BK128), (blkS BK147), GW147.out, GE147.out, NB127_147.out, NB147_127.out, NB128_147.out, NB147_128.out, (bS3 HB GE127 GE128 GE147)⟩)
      ·skip
       refine litE k111 111 (N := 13) ?_
       intro v142 w12 ho13 hb hg_ hnew_
       clear hg_ hnew_
       (first | rw [← Ny141.out] at ho13 | (simp only [Int.reduceToNat] at ho13; rw [← Ny141.out] at ho13))
       have HO143 := Aside0.mk (Kd.R_lower ho13 (below_size (bS3 HB GE127 GE128 GE147)))
       replace HO131 := Aside0.mk (Kd.R_below (RS HO131) hb)
       replace BK127 := bB BK127 hb
       replace BK128 := bB BK128 hb
       replace BK147 := bB BK147 hb
       replace HB := Aside0.mk (below_step (bS3 HB GE127 GE128 GE147) hb)
       clear hb ho13
       refine hK.out _ _ (c4e BK127) (fun hHeld => ?_)
       clear hK K
       refine normS (N := (some 13)) ?_
       exact normJ (hJ0_8_13 (v130, v142, gb147) _ ⟨hHeld, (RS HO131), (RS HO143), (blkS BK127), (blkS BK128), (blkS BK147), GW147.out, GE147.out, NB127_147.out, NB147_127.out, NB128_147.out, NB147_128.out, (bS3 HB GE127 GE128 GE147)⟩)
     refine join_ (σ := Value × Value) 7 #[false, true, true, false, true, true, true, false, true, true, true, false, false, false, false] (fun s_ => [(9, s_.1), (13, s_.2)]) (fun s_ w' => C4e w' gb127 (.slice A0_0 l0_0.length c0_0) (.slice A0_1 l0_1.length c0_1) (.slice A0_2 l0_2.length c0_2) (.slice A0_3 l0_3.length c0_3) ∧ (Kd.R k97 97 w' w.heap.size (fun _ => True) s_.1 y135) ∧ (Kd.R k111 111 w' w.heap.size (fun _ => True) s_.2 y141) ∧ (w'.heap[gb127]? = some (.cells #[.slice A0_0 l0_0.length c0_0, .slice A0_1 l0_1.length c0_1, .slice A0_2 l0_2.length c0_2, .slice A0_3 l0_3.length c0_3] 39 (0, 0))) ∧ (w'.heap[gb128]? = some (.cells #[.slice none 0 0, .slice none 0 0, .slice none 0 0, .slice none 0 0] 39 (0, 0))) ∧ (Below w.heap.size w w')) ?_ (fun hJ4_8 => ?_)
     ·clear BK127 BK128 HB
      rintro ⟨v136, v142⟩ w12 ⟨hHeld, h0_, h1_, h2_, h3_, h4_⟩
      have HO137 := Aside0.mk h0_; have HO143 := Aside0.mk h1_; have BK127 := Aside0.mk h2_; have BK128 := Aside0.mk h3_; have HB := Aside0.mk h4_
      clear h0_ h1_ h2_ h3_ h4_
      refine normP ?_
      refine twoS (i := 0) (j := 13) (Ni := some 5) (Nj := some 3) HT_ (fun K hK => ?_) (fun K hK => ?_)
      ·skip
       refine litE k52 52 (N := 5) ?_
       intro v130 w13 ho14 hb hg_ hnew_
       clear hg_ hnew_
       (first | rw [← Ny129.out] at ho14 | (simp only [Int.reduceToNat] at ho14; rw [← Ny129.out] at ho14))
       have HO131 := Aside0.mk (Kd.R_lower ho14 (below_size (bS2 HB GE127 GE128)))
       replace HO137 := Aside0.mk (Kd.R_below (RS HO137) hb)
       replace HO143 := Aside0.mk (Kd.R_below (RS HO143) hb)
       replace BK127 := bB BK127 hb
       replace BK128 := bB BK128 hb
       replace HB := Aside0.mk (below_step (bS2 HB GE127 GE128) hb)
       clear hb ho14
       refine hK.out _ _ (c4e BK127) (fun hHeld => ?_)
       clear hK K
       refine normS (N := (some 5)) ?_
       exact normJ (hJ0_4_8 (v130, v136, v142) _ ⟨hHeld, (RS HO131), (RS HO137), (RS HO143), (blkS BK127), (blkS BK128), (bS2 HB GE127 GE128)⟩)
      ·skip
       refine box_step ?hg (N := 3) ?hd (cs := #[.slice none 0 0, .slice none 0 0, .slice none 0 0, .slice none 0 0]) (t := 39) ?hr ?_; (case hd => rfl); (case hg => rfl); (case hr => first | (go_simp; done) | (go_simp; rfl))
       intro gb147 hg w13 hbox hb
       have BK147 := Aside0.mk (hbox)
       have GW147 := Aside0.mk ((by rw [hg]; exact (below_size (bS2 HB GE127 GE128)) : w.heap.size ≤ gb147))
       have GE147 := Aside0.mk ((by rw [hg]; exact (below_size (bS2 HB GE127 GE128)) : w.heap.size ≤ gb147))
       have NB127_147 := nLt BK127 hg
       have NB147_127 := nGt BK127 hg
       have NB128_147 := nLt BK128 hg
       have NB147_128 := nGt BK128 hg
       replace HO137 := Aside0.mk (Kd.R_below (RS HO137) hb)
       replace HO143 := Aside0.mk (Kd.R_below (RS HO143) hb)
       replace BK127 := bB BK127 hb
       replace BK128 := bB BK128 hb
       replace HB := Aside0.mk (below_step (bS2 HB GE127 GE128) hb)
       clear hb hbox hg
       refine hK.out _ _ (c4e BK127) (fun hHeld => ?_)
       clear hK K
       refine normS (N := (some 3)) ?_
       exact normJ (hJ4_8_13 (v136, v142, gb147) _ ⟨hHeld, (RS HO137), (RS HO143), (blkS BK127), (blkS BK128), (blkS BK147), GW147.out, GE147.out, NB127_147.out, NB147_127.out, NB128_147.out, NB147_128.out, (bS3 HB GE127 GE128 GE147)⟩)
     refine join_ (σ := Value × Nat) 7 #[false, true, true, false, true, true, true, false, false, true, true, false, false, true, false] (fun s_ => [(9, s_.1), (3, .pointer (some ⟨s_.2, 0, none⟩))]) (fun s_ w' => C4e w' gb127 (.slice A0_0 l0_0.length c0_0) (.slice A0_1 l0_1.length c0_1) (.slice A0_2 l0_2.length c0_2) (.slice A0_3 l0_3.length c0_3) ∧ (Kd.R k97 97 w' w.heap.size (fun _ => True) s_.1 y135) ∧ (w'.heap[gb127]? = some (.cells #[.slice A0_0 l0_0.length c0_0, .slice A0_1 l0_1.length c0_1, .slice A0_2 l0_2.length c0_2, .slice A0_3 l0_3.length c0_3] 39 (0, 0))) ∧ (w'.heap[gb128]? = some (.cells #[.slice none 0 0, .slice none 0 0, .slice none 0 0, .slice none 0 0] 39 (0, 0))) ∧ (w'.heap[s_.2]? = some (.cells #[.slice none 0 0, .slice none 0 0, .slice none 0 0, .slice none 0 0] 39 (0, 0))) ∧ (w.heap.size ≤ s_.2) ∧ (w.heap.size ≤ s_.2) ∧ (gb127 ≠ s_.2) ∧ (s_.2 ≠ gb127) ∧ (gb128 ≠ s_.2) ∧ (s_.2 ≠ gb128) ∧ (Below w.heap.size w w')) ?_ (fun hJ4_13 => ?_)
     ·clear BK127 BK128 HB
      rintro ⟨v136, gb147⟩ w11 ⟨hHeld, h0_, h1_, h2_, h3_, h4_, h5_, h6_, h7_, h8_, h9_, h10_⟩
      have HO137 := Aside0.mk h0_; have BK127 := Aside0.mk h1_; have BK128 := Aside0.mk h2_; have BK147 := Aside0.mk h3_; have GW147 := Aside0.mk h4_; have GE147 := Aside0.mk h5_; have NB127_147 := Aside0.mk h6_; have NB147_127 := Aside0.mk h7_; have NB128_147 := Aside0.mk h8_; have NB147_128 := Aside0.mk h9_; have HB := Aside0.mk h10_
      clear h0_ h1_ h2_ h3_ h4_ h5_ h6_ h7_ h8_ h9_ h10_
      refine normP ?_
      refine twoS (i := 0) (j := 8) (Ni := some 5) (Nj := some 13) HT_ (fun K hK => ?_) (fun K hK => ?_)
      ·skip
       refine litE k52 52 (N := 5) ?_
       intro v130 w12 ho13 hb hg_ hnew_
       clear hg_ hnew_
       (first | rw [← Ny129.out] at ho13 | (simp only [Int.reduceToNat] at ho13; rw [← Ny129.out] at ho13))
       have HO131 := Aside0.mk (Kd.R_lower ho13 (below_size (bS3 HB GE127 GE128 GE147)))
       replace HO137 := Aside0.mk (Kd.R_below (RS HO137) hb)
       replace BK127 := bB BK127 hb
       replace BK128 := bB BK128 hb
       replace BK147 := bB BK147 hb
       replace HB := Aside0.mk (below_step (bS3 HB GE127 GE128 GE147) hb)
       clear hb ho13
       refine hK.out _ _ (c4e BK127) (fun hHeld => ?_)
       clear hK K
       refine normS (N := (some 5)) ?_
       exact normJ (hJ0_4_13 (v130, v136, gb147) _ ⟨hHeld, (RS HO131), (RS HO137), (blkS BK127), (blkS BK128), (blkS BK147), GW147.out, GE147.out, NB127_147.out, NB147_127.out, NB128_147.out, NB147_128.out, (bS3 HB GE127 GE128 GE147)⟩)
      ·skip
       refine litE k111 111 (N := 13) ?_
       intro v142 w12 ho13 hb hg_ hnew_
       clear hg_ hnew_
       (first | rw [← Ny141.out] at ho13 | (simp only [Int.reduceToNat] at ho13; rw [← Ny141.out] at ho13))
       have HO143 := Aside0.mk (Kd.R_lower ho13 (below_size (bS3 HB GE127 GE128 GE147)))
       replace HO137 := Aside0.mk (Kd.R_below (RS HO137) hb)
       replace BK127 := bB BK127 hb
       replace BK128 := bB BK128 hb
       replace BK147 := bB BK147 hb
       replace HB := Aside0.mk (below_step (bS3 HB GE127 GE128 GE147) hb)
       clear hb ho13
       refine hK.out _ _ (c4e BK127) (fun hHeld => ?_)
       clear hK K
       refine normS (N := (some 13)) ?_
       exact normJ (hJ4_8_13 (v136, v142, gb147) _ ⟨hHeld, (RS HO137), (RS HO143), (blkS BK127), (blkS BK128), (blkS BK147), GW147.out, GE147.out, NB127_147.out, NB147_127.out, NB128_147.out, NB147_128.out, (bS3 HB GE127 GE128 GE147)⟩)
     refine join_ (σ := Value × Nat) 7 #[false, true, true, false, false, true, true, false, true, true, true, false, false, true, false] (fun s_ => [(13, s_.1), (3, .pointer (some ⟨s_.2, 0, none⟩))]) (fun s_ w' => C4e w' gb127 (.slice A0_0 l0_0.length c0_0) (.slice A0_1 l0_1.length c0_1) (.slice A0_2 l0_2.length c0_2) (.slice A0_3 l0_3.length c0_3) ∧ (Kd.R k111 111 w' w.heap.size (fun _ => True) s_.1 y141) ∧ (w'.heap[gb127]? = some (.cells #[.slice A0_0 l0_0.length c0_0, .slice A0_1 l0_1.length c0_1, .slice A0_2 l0_2.length c0_2, .slice A0_3 l0_3.length c0_3] 39 (0, 0))) ∧ (w'.heap[gb128]? = some (.cells #[.slice none 0 0, .slice none 0 0, .slice none 0 0, .slice none 0 0] 39 (0, 0))) ∧ (w'.heap[s_.2]? = some (.cells #[.slice none 0 0, .slice none 0 0, .slice none 0 0, .slice none 0 0] 39 (0, 0))) ∧ (w.heap.size ≤ s_.2) ∧ (w.heap.size ≤ s_.2) ∧ (gb127 ≠ s_.2) ∧ (s_.2 ≠ gb127) ∧ (gb128 ≠ s_.2) ∧ (s_.2 ≠ gb128) ∧ (Below w.heap.size w w')) ?_ (fun hJ8_13 => ?_)
     ·clear BK127 BK128 HB
      rintro ⟨v142, gb147⟩ w11 ⟨hHeld, h0_, h1_, h2_, h3_, h4_, h5_, h6_, h7_, h8_, h9_, h10_⟩
      have HO143 := Aside0.mk h0_; have BK127 := Aside0.mk h1_; have BK128 := Aside0.mk h2_; have BK147 := Aside0.mk h3_; have GW147 := Aside0.mk h4_; have GE147 := Aside0.mk h5_; have NB127_147 := Aside0.mk h6_; have NB147_127 := Aside0.mk h7_; have NB128_147 := Aside0.mk h8_; have NB147_128 := Aside0.mk h9_; have HB := Aside0.mk h10_
      clear h0_ h1_ h2_ h3_ h4_ h5_ h6_ h7_ h8_ h9_ h10_
      refine normP ?_
      refine twoS (i := 0) (j := 4) (Ni := some 5) (Nj := some 9) HT_ (fun K hK => ?_) (fun K hK => ?_)
      ·skip
       refine litE k52 52 (N := 5) ?_
       intro v130 w12 ho13 hb hg_ hnew_
       clear hg_ hnew_
       (first | rw [← Ny129.out] at ho13 | (simp only [Int.reduceToNat] at ho13; rw [← Ny129.out] at ho13))
       have HO131 := Aside0.mk (Kd.R_lower ho13 (below_size (bS3 HB GE127 GE128 GE147)))
       replace HO143 := Aside0.mk (Kd.R_below (RS HO143) hb)
       replace BK127 := bB BK127 hb
       replace BK128 := bB BK128 hb
       replace BK147 := bB BK147 hb
       replace HB := Aside0.mk (below_step (bS3 HB GE127 GE128 GE147) hb)
       clear hb ho13
       refine hK.out _ _ (c4e BK127) (fun hHeld => ?_)
       clear hK K
       refine normS (N := (some 5)) ?_
       exact normJ (hJ0_8_13 (v130, v142, gb147) _ ⟨hHeld, (RS HO131), (RS HO143), (blkS BK127), (blkS BK128), (blkS BK147), GW147.out, GE147.out, NB127_147.out, NB147_127.out, NB128_147.out, NB147_128.out, (bS3 HB GE127 GE128 GE147)⟩)
      ·skip
       refine litE k97 97 (N := 9) ?_
       intro v136 w12 ho13 hb hg_ hnew_
       clear hg_ hnew_
       (first | rw [← Ny135.out] at ho13 | (simp only [Int.reduceToNat] at ho13; rw [← Ny135.out] at ho13))
       have HO137 := Aside0.mk (Kd.R_lower ho13 (below_size (bS3 HB GE127 GE128 GE147)))
       replace HO143 := Aside0.mk (Kd.R_below (RS HO143) hb)
       replace BK127 := bB BK127 hb
       replace BK128 := bB BK128 hb
       replace BK147 := bB BK147 hb
       replace HB := Aside0.mk (below_step (bS3 HB GE127 GE128 GE147) hb)
       clear hb ho13
       refine hK.out _ _ (c4e BK127) (fun hHeld => ?_)
       clear hK K
       refine normS (N := (some 9)) ?_
       exact normJ (hJ4_8_13 (v136, v142, gb147) _ ⟨hHeld, (RS HO137), (RS HO143), (blkS BK127), (blkS BK128), (blkS BK147), GW147.out, GE147.out, NB127_147.out, NB147_127.out, NB128_147.out, NB147_128.out, (bS3 HB GE127 GE128 GE147)⟩)
     refine join_ (σ := Value) 8 #[true, true, true, false, false, true, true, false, false, true, true, false, false, false, false] (fun s_ => [(5, s_)]) (fun s_ w' => C4e w' gb127 (.slice A0_0 l0_0.length c0_0) (.slice A0_1 l0_1.length c0_1) (.slice A0_2 l0_2.length c0_2) (.slice A0_3 l0_3.length c0_3) ∧ (Kd.R k52 52 w' w.heap.size (fun _ => True) s_ y129) ∧ (w'.heap[gb127]? = some (.cells #[.slice A0_0 l0_0.length c0_0, .slice A0_1 l0_1.length c0_1, .slice A0_2 l0_2.length c0_2, .slice A0_3 l0_3.length c0_3] 39 (0, 0))) ∧ (w'.heap[gb128]? = some (.cells #[.slice none 0 0, .slice none 0 0, .slice none 0 0, .slice none 0 0] 39 (0, 0))) ∧ (Below w.heap.size w w')) ?_ (fun hJ0 => ?_)
     ·clear BK127 BK128 HB
      rintro v130 w10 ⟨hHeld, h0_, h1_, h2_, h3_⟩
      have HO131 := Aside0.mk h0_; have BK127 := Aside0.mk h1_; have BK128 := Aside0.mk h2_; have HB := Aside0.mk h3_
      clear h0_ h1_ h2_ h3_
      refine normP ?_
      refine fourS (i := 3) (j := 4) (k := 8) (m := 13) (Ni := some 8) (Nj := some 9) (Nk := some 13) (Nm := some 3) HT_ (fun K hK => ?_) (fun K hK => ?_) (fun K hK => ?_) (fun K hK => ?_)
      ·skip
       refine Kd.R_append_rows_step k52 (w0 := w) w.heap.size (by rfl) (.tmp 5) (.tmp 7) 34 52 (.agg #[(.int .i64 0), (.int .i64 0), (.string ⟨#[]⟩)]) 32 rfl Try.underlying34 info52 rfl (by decide) (by omega) v130 y129 l0_0 _ _ _ (fun _ => True) (fun _ => False) rfl rfl ?aO ?aR (fun _ _ h => h) (fun _ h => h.elim) ?aF ?aB ?aS ?aL ?_
       (case aR => repeat (first | exact (Kd.C_below HR0_0.out HB.out) | (with_reducible refine Kd.C_alloc ?_ _) | (with_reducible refine Kd.C_drewN ?_ _) | (with_reducible refine Kd.C_drew ?_)))
       (case aB => exact (bS2 HB GE127 GE128))
       (case aF => exact (fun _ _ => trivial))
       (case aO => exact (RS HO131))
       (case aS => exact (below_size (bS2 HB GE127 GE128)))
       (case aL => have := LMc2.out; omega)
       intro v133 w11 ho hb hg hat
       rw [← Ny132.out] at ho
       replace BK127 := Aside0.mk (blk_grown (blkS BK127) hg (Kd.R_ne HO131.out BK127.out (by decide)))
       replace BK128 := Aside0.mk (blk_grown (blkS BK128) hg (Kd.R_ne HO131.out BK128.out (by decide)))
       replace HB := Aside0.mk (hb)
       have HO134 := Aside0.mk (ho)
       clear HO131 ho hb hg hat
       refine hK.out _ _ (c4e BK127) (fun hHeld => ?_)
       clear hK K
       refine normS (N := (some 8)) ?_
       exact normJ (hJ0_3 (v130, v133) _ ⟨hHeld, (RS HO134), (blkS BK127), (blkS BK128), (bS2 HB GE127 GE128)⟩)
      ·skip
       refine litE k97 97 (N := 9) ?_
       intro v136 w11 ho12 hb hg_ hnew_
       clear hg_ hnew_
       (first | rw [← Ny135.out] at ho12 | (simp only [Int.reduceToNat] at ho12; rw [← Ny135.out] at ho12))
       have HO137 := Aside0.mk (Kd.R_lower ho12 (below_size (bS2 HB GE127 GE128)))
       replace HO131 := Aside0.mk (Kd.R_below (RS HO131) hb)
       replace BK127 := bB BK127 hb
       replace BK128 := bB BK128 hb
       replace HB := Aside0.mk (below_step (bS2 HB GE127 GE128) hb)
       clear hb ho12
       refine hK.out _ _ (c4e BK127) (fun hHeld => ?_)
       clear hK K
       refine normS (N := (some 9)) ?_
       exact normJ (hJ0_4 (v130, v136) _ ⟨hHeld, (RS HO131), (RS HO137), (blkS BK127), (blkS BK128), (bS2 HB GE127 GE128)⟩)
      ·skip
       refine litE k111 111 (N := 13) ?_
       intro v142 w11 ho12 hb hg_ hnew_
       clear hg_ hnew_
       (first | rw [← Ny141.out] at ho12 | (simp only [Int.reduceToNat] at ho12; rw [← Ny141.out] at ho12))
       have HO143 := Aside0.mk (Kd.R_lower ho12 (below_size (bS2 HB GE127 GE128)))
       replace HO131 := Aside0.mk (Kd.R_below (RS HO131) hb)
       replace BK127 := bB BK127 hb
       replace BK128 := bB BK128 hb
       replace HB := Aside0.mk (below_step (bS2 HB GE127 GE128) hb)
       clear hb ho12
       refine hK.out _ _ (c4e BK127) (fun hHeld => ?_)
       clear hK K
       refine normS (N := (some 13)) ?_
       exact normJ (hJ0_8 (v130, v142) _ ⟨hHeld, (RS HO131), (RS HO143), (blkS BK127), (blkS BK128), (bS2 HB GE127 GE128)⟩)
      ·skip
       refine box_step ?hg (N := 3) ?hd (cs := #[.slice none 0 0, .slice none 0 0, .slice none 0 0, .slice none 0 0]) (t := 39) ?hr ?_; (case hd => rfl); (case hg => rfl); (case hr => first | (go_simp; done) | (go_simp; rfl))
       intro gb147 hg w11 hbox hb
       have BK147 := Aside0.mk (hbox)
       have GW147 := Aside0.mk ((by rw [hg]; exact (below_size (bS2 HB GE127 GE128)) : w.heap.size ≤ gb147))
       have GE147 := Aside0.mk ((by rw [hg]; exact (below_size (bS2 HB GE127 GE128)) : w.heap.size ≤ gb147))
       have NB127_147 := nLt BK127 hg
       have NB147_127 := nGt BK127 hg
       have NB128_147 := nLt BK128 hg
       have NB147_128 := nGt BK128 hg
       replace HO131 := Aside0.mk (Kd.R_below (RS HO131) hb)
       replace BK127 := bB BK127 hb
       replace BK128 := bB BK128 hb
       replace HB := Aside0.mk (below_step (bS2 HB GE127 GE128) hb)
       clear hb hbox hg
       refine hK.out _ _ (c4e BK127) (fun hHeld => ?_)
       clear hK K
       refine normS (N := (some 3)) ?_
       exact normJ (hJ0_13 (v130, gb147) _ ⟨hHeld, (RS HO131), (blkS BK127), (blkS BK128), (blkS BK147), GW147.out, GE147.out, NB127_147.out, NB147_127.out, NB128_147.out, NB147_128.out, (bS3 HB GE127 GE128 GE147)⟩)
     refine join_ (σ := Value) 8 #[false, true, true, false, true, true, true, false, false, true, true, false, false, false, false] (fun s_ => [(9, s_)]) (fun s_ w' => C4e w' gb127 (.slice A0_0 l0_0.length c0_0) (.slice A0_1 l0_1.length c0_1) (.slice A0_2 l0_2.length c0_2) (.slice A0_3 l0_3.length c0_3) ∧ (Kd.R k97 97 w' w.heap.size (fun _ => True) s_ y135) ∧ (w'.heap[gb127]? = some (.cells #[.slice A0_0 l0_0.length c0_0, .slice A0_1 l0_1.length c0_1, .slice A0_2 l0_2.length c0_2, .slice A0_3 l0_3.length c0_3] 39 (0, 0))) ∧ (w'.heap[gb128]? = some (.cells #[.slice none 0 0, .slice none 0 0, .slice none 0 0, .slice none 0 0] 39 (0, 0))) ∧ (Below w.heap.size w w')) ?_ (fun hJ4 => ?_)
     ·clear BK127 BK128 HB
      rintro v136 w10 ⟨hHeld, h0_, h1_, h2_, h3_⟩
      have HO137 := Aside0.mk h0_; have BK127 := Aside0.mk h1_; have BK128 := Aside0.mk h2_; have HB := Aside0.mk h3_
      clear h0_ h1_ h2_ h3_
      refine normP ?_
      refine threeS (i := 0) (j := 8) (k := 13) (Ni := some 5) (Nj := some 13) (Nk := some 3) HT_ (fun K hK => ?_) (fun K hK => ?_) (fun K hK => ?_)
      ·skip
       refine litE k52 52 (N := 5) ?_
       intro v130 w11 ho12 hb hg_ hnew_
       clear hg_ hnew_
       (first | rw [← Ny129.out] at ho12 | (simp only [Int.reduceToNat] at ho12; rw [← Ny129.out] at ho12))
       have HO131 := Aside0.mk (Kd.R_lower ho12 (below_size (bS2 HB GE127 GE128)))
       replace HO137 := Aside0.mk (Kd.R_below (RS HO137) hb)
       replace BK127 := bB BK127 hb
       replace BK128 := bB BK128 hb
       replace HB := Aside0.mk (below_step (bS2 HB GE127 GE128) hb)
       clear hb ho12
       refine hK.out _ _ (c4e BK127) (fun hHeld => ?_)
       clear hK K
       refine normS (N := (some 5)) ?_
       exact normJ (hJ0_4 (v130, v136) _ ⟨hHeld, (RS HO131), (RS HO137), (blkS BK127), (blkS BK128), (bS2 HB GE127 GE128)⟩)
      ·skip
       refine litE k111 111 (N := 13) ?_
       intro v142 w11 ho12 hb hg_ hnew_
       clear hg_ hnew_
       (first | rw [← Ny141.out] at ho12 | (simp only [Int.reduceToNat] at ho12; rw [← Ny141.out] at ho12))
       have HO143 := Aside0.mk (Kd.R_lower ho12 (below_size (bS2 HB GE127 GE128)))
       replace HO137 := Aside0.mk (Kd.R_below (RS HO137) hb)
       replace BK127 := bB BK127 hb
       replace BK128 := bB BK128 hb
       replace HB := Aside0.mk (below_step (bS2 HB GE127 GE128) hb)
       clear hb ho12
       refine hK.out _ _ (c4e BK127) (fun hHeld => ?_)
       clear hK K
       refine normS (N := (some 13)) ?_
       exact normJ (hJ4_8 (v136, v142) _ ⟨hHeld, (RS HO137), (RS HO143), (blkS BK127), (blkS BK128), (bS2 HB GE127 GE128)⟩)
      ·skip
       refine box_step ?hg (N := 3) ?hd (cs := #[.slice none 0 0, .slice none 0 0, .slice none 0 0, .slice none 0 0]) (t := 39) ?hr ?_; (case hd => rfl); (case hg => rfl); (case hr => first | (go_simp; done) | (go_simp; rfl))
       intro gb147 hg w11 hbox hb
       have BK147 := Aside0.mk (hbox)
       have GW147 := Aside0.mk ((by rw [hg]; exact (below_size (bS2 HB GE127 GE128)) : w.heap.size ≤ gb147))
       have GE147 := Aside0.mk ((by rw [hg]; exact (below_size (bS2 HB GE127 GE128)) : w.heap.size ≤ gb147))
       have NB127_147 := nLt BK127 hg
       have NB147_127 := nGt BK127 hg
       have NB128_147 := nLt BK128 hg
       have NB147_128 := nGt BK128 hg
       replace HO137 := Aside0.mk (Kd.R_below (RS HO137) hb)
       replace BK127 := bB BK127 hb
       replace BK128 := bB BK128 hb
       replace HB := Aside0.mk (below_step (bS2 HB GE127 GE128) hb)
       clear hb hbox hg
       refine hK.out _ _ (c4e BK127) (fun hHeld => ?_)
       clear hK K
       refine normS (N := (some 3)) ?_
       exact normJ (hJ4_13 (v136, gb147) _ ⟨hHeld, (RS HO137), (blkS BK127), (blkS BK128), (blkS BK147), GW147.out, GE147.out, NB127_147.out, NB147_127.out, NB128_147.out, NB147_128.out, (bS3 HB GE127 GE128 GE147)⟩)
     refine join_ (σ := Value) 8 #[false, true, true, false, false, true, true, false, true, true, true, false, false, false, false] (fun s_ => [(13, s_)]) (fun s_ w' => C4e w' gb127 (.slice A0_0 l0_0.length c0_0) (.slice A0_1 l0_1.length c0_1) (.slice A0_2 l0_2.length c0_2) (.slice A0_3 l0_3.length c0_3) ∧ (Kd.R k111 111 w' w.heap.size (fun _ => True) s_ y141) ∧ (w'.heap[gb127]? = some (.cells #[.slice A0_0 l0_0.length c0_0, .slice A0_1 l0_1.length c0_1, .slice A0_2 l0_2.length c0_2, .slice A0_3 l0_3.length c0_3] 39 (0, 0))) ∧ (w'.heap[gb128]? = some (.cells #[.slice none 0 0, .slice none 0 0, .slice none 0 0, .slice none 0 0] 39 (0, 0))) ∧ (Below w.heap.size w w')) ?_ (fun hJ8 => ?_)
     ·clear BK127 BK128 HB
      rintro v142 w10 ⟨hHeld, h0_, h1_, h2_, h3_⟩
      have HO143 := Aside0.mk h0_; have BK127 := Aside0.mk h1_; have BK128 := Aside0.mk h2_; have HB := Aside0.mk h3_
      clear h0_ h1_ h2_ h3_
      refine normP ?_
      refine threeS (i := 0) (j := 4) (k := 13) (Ni := some 5) (Nj := some 9) (Nk := some 3) HT_ (fun K hK => ?_) (fun K hK => ?_) (fun K hK => ?_)
      ·skip
       refine litE k52 52 (N := 5) ?_
       intro v130 w11 ho12 hb hg_ hnew_
       clear hg_ hnew_
       (first | rw [← Ny129.out] at ho12 | (simp only [Int.reduceToNat] at ho12; rw [← Ny129.out] at ho12))
       have HO131 := Aside0.mk (Kd.R_lower ho12 (below_size (bS2 HB GE127 GE128)))
       replace HO143 := Aside0.mk (Kd.R_below (RS HO143) hb)
       replace BK127 := bB BK127 hb
       replace BK128 := bB BK128 hb
       replace HB := Aside0.mk (below_step (bS2 HB GE127 GE128) hb)
       clear hb ho12
       refine hK.out _ _ (c4e BK127) (fun hHeld => ?_)
       clear hK K
       refine normS (N := (some 5)) ?_
       exact normJ (hJ0_8 (v130, v142) _ ⟨hHeld, (RS HO131), (RS HO143), (blkS BK127), (blkS BK128), (bS2 HB GE127 GE128)⟩)
      ·skip
       refine litE k97 97 (N := 9) ?_
       intro v136 w11 ho12 hb hg_ hnew_
       clear hg_ hnew_
       (first | rw [← Ny135.out] at ho12 | (simp only [Int.reduceToNat] at ho12; rw [← Ny135.out] at ho12))
       have HO137 := Aside0.mk (Kd.R_lower ho12 (below_size (bS2 HB GE127 GE128)))
       replace HO143 := Aside0.mk (Kd.R_below (RS HO143) hb)
       replace BK127 := bB BK127 hb
       replace BK128 := bB BK128 hb
       replace HB := Aside0.mk (below_step (bS2 HB GE127 GE128) hb)
       clear hb ho12
       refine hK.out _ _ (c4e BK127) (fun hHeld => ?_)
       clear hK K
       refine normS (N := (some 9)) ?_
       exact normJ (hJ4_8 (v136, v142) _ ⟨hHeld, (RS HO137), (RS HO143), (blkS BK127), (blkS BK128), (bS2 HB GE127 GE128)⟩)
      ·skip
       refine box_step ?hg (N := 3) ?hd (cs := #[.slice none 0 0, .slice none 0 0, .slice none 0 0, .slice none 0 0]) (t := 39) ?hr ?_; (case hd => rfl); (case hg => rfl); (case hr => first | (go_simp; done) | (go_simp; rfl))
       intro gb147 hg w11 hbox hb
       have BK147 := Aside0.mk (hbox)
       have GW147 := Aside0.mk ((by rw [hg]; exact (below_size (bS2 HB GE127 GE128)) : w.heap.size ≤ gb147))
       have GE147 := Aside0.mk ((by rw [hg]; exact (below_size (bS2 HB GE127 GE128)) : w.heap.size ≤ gb147))
       have NB127_147 := nLt BK127 hg
       have NB147_127 := nGt BK127 hg
       have NB128_147 := nLt BK128 hg
       have NB147_128 := nGt BK128 hg
       replace HO143 := Aside0.mk (Kd.R_below (RS HO143) hb)
       replace BK127 := bB BK127 hb
       replace BK128 := bB BK128 hb
       replace HB := Aside0.mk (below_step (bS2 HB GE127 GE128) hb)
       clear hb hbox hg
       refine hK.out _ _ (c4e BK127) (fun hHeld => ?_)
       clear hK K
       refine normS (N := (some 3)) ?_
       exact normJ (hJ8_13 (v142, gb147) _ ⟨hHeld, (RS HO143), (blkS BK127), (blkS BK128), (blkS BK147), GW147.out, GE147.out, NB127_147.out, NB147_127.out, NB128_147.out, NB147_128.out, (bS3 HB GE127 GE128 GE147)⟩)
     refine join_ (σ := Nat) 8 #[false, true, true, false, false, true, true, false, false, true, true, false, false, true, false] (fun s_ => [(3, .pointer (some ⟨s_, 0, none⟩))]) (fun s_ w' => C4e w' gb127 (.slice A0_0 l0_0.length c0_0) (.slice A0_1 l0_1.length c0_1) (.slice A0_2 l0_2.length c0_2) (.slice A0_3 l0_3.length c0_3) ∧ (w'.heap[gb127]? = some (.cells #[.slice A0_0 l0_0.length c0_0, .slice A0_1 l0_1.length c0_1, .slice A0_2 l0_2.length c0_2, .slice A0_3 l0_3.length c0_3] 39 (0, 0))) ∧ (w'.heap[gb128]? = some (.cells #[.slice none 0 0, .slice none 0 0, .slice none 0 0, .slice none 0 0] 39 (0, 0))) ∧ (w'.heap[s_]? = some (.cells #[.slice none 0 0, .slice none 0 0, .slice none 0 0, .slice none 0 0] 39 (0, 0))) ∧ (w.heap.size ≤ s_) ∧ (w.heap.size ≤ s_) ∧ (gb127 ≠ s_) ∧ (s_ ≠ gb127) ∧ (gb128 ≠ s_) ∧ (s_ ≠ gb128) ∧ (Below w.heap.size w w')) ?_ (fun hJ13 => ?_)
     ·clear BK127 BK128 HB
      rintro gb147 w9 ⟨hHeld, h0_, h1_, h2_, h3_, h4_, h5_, h6_, h7_, h8_, h9_⟩
      have BK127 := Aside0.mk h0_; have BK128 := Aside0.mk h1_; have BK147 := Aside0.mk h2_; have GW147 := Aside0.mk h3_; have GE147 := Aside0.mk h4_; have NB127_147 := Aside0.mk h5_; have NB147_127 := Aside0.mk h6_; have NB128_147 := Aside0.mk h7_; have NB147_128 := Aside0.mk h8_; have HB := Aside0.mk h9_
      clear h0_ h1_ h2_ h3_ h4_ h5_ h6_ h7_ h8_ h9_
      refine normP ?_
      refine threeS (i := 0) (j := 4) (k := 8) (Ni := some 5) (Nj := some 9) (Nk := some 13) HT_ (fun K hK => ?_) (fun K hK => ?_) (fun K hK => ?_)
      ·skip
       refine litE k52 52 (N := 5) ?_
       intro v130 w10 ho11 hb hg_ hnew_
       clear hg_ hnew_
       (first | rw [← Ny129.out] at ho11 | (simp only [Int.reduceToNat] at ho11; rw [← Ny129.out] at ho11))
       have HO131 := Aside0.mk (Kd.R_lower ho11 (below_size (bS3 HB GE127 GE128 GE147)))
       replace BK127 := bB BK127 hb
       replace BK128 := bB BK128 hb
       replace BK147 := bB BK147 hb
       replace HB := Aside0.mk (below_step (bS3 HB GE127 GE128 GE147) hb)
       clear hb ho11
       refine hK.out _ _ (c4e BK127) (fun hHeld => ?_)
       clear hK K
       refine normS (N := (some 5)) ?_
       exact normJ (hJ0_13 (v130, gb147) _ ⟨hHeld, (RS HO131), (blkS BK127), (blkS BK128), (blkS BK147), GW147.out, GE147.out, NB127_147.out, NB147_127.out, NB128_147.out, NB147_128.out, (bS3 HB GE127 GE128 GE147)⟩)
      ·skip
       refine litE k97 97 (N := 9) ?_
       intro v136 w10 ho11 hb hg_ hnew_
       clear hg_ hnew_
       (first | rw [← Ny135.out] at ho11 | (simp only [Int.reduceToNat] at ho11; rw [← Ny135.out] at ho11))
       have HO137 := Aside0.mk (Kd.R_lower ho11 (below_size (bS3 HB GE127 GE128 GE147)))
       replace BK127 := bB BK127 hb
       replace BK128 := bB BK128 hb
       replace BK147 := bB BK147 hb
       replace HB := Aside0.mk (below_step (bS3 HB GE127 GE128 GE147) hb)
       clear hb ho11
       refine hK.out _ _ (c4e BK127) (fun hHeld => ?_)
       clear hK K
       refine normS (N := (some 9)) ?_
       exact normJ (hJ4_13 (v136, gb147) _ ⟨hHeld, (RS HO137), (blkS BK127), (blkS BK128), (blkS BK147), GW147.out, GE147.out, NB127_147.out, NB147_127.out, NB128_147.out, NB147_128.out, (bS3 HB GE127 GE128 GE147)⟩)
      ·skip
       refine litE k111 111 (N := 13) ?_
       intro v142 w10 ho11 hb hg_ hnew_
       clear hg_ hnew_
       (first | rw [← Ny141.out] at ho11 | (simp only [Int.reduceToNat] at ho11; rw [← Ny141.out] at ho11))
       have HO143 := Aside0.mk (Kd.R_lower ho11 (below_size (bS3 HB GE127 GE128 GE147)))
       replace BK127 := bB BK127 hb
       replace BK128 := bB BK128 hb
       replace BK147 := bB BK147 hb
       replace HB := Aside0.mk (below_step (bS3 HB GE127 GE128 GE147) hb)
       clear hb ho11
       refine hK.out _ _ (c4e BK127) (fun hHeld => ?_)
       clear hK K
       refine normS (N := (some 13)) ?_
       exact normJ (hJ8_13 (v142, gb147) _ ⟨hHeld, (RS HO143), (blkS BK127), (blkS BK128), (blkS BK147), GW147.out, GE147.out, NB127_147.out, NB147_127.out, NB128_147.out, NB147_128.out, (bS3 HB GE127 GE128 GE147)⟩)
     refine fourS (i := 0) (j := 4) (k := 8) (m := 13) (Ni := some 5) (Nj := some 9) (Nk := some 13) (Nm := some 3) HT_ (fun K hK => ?_) (fun K hK => ?_) (fun K hK => ?_) (fun K hK => ?_)
     ·skip
      refine litE k52 52 (N := 5) ?_
      intro v130 w8 ho9 hb hg_ hnew_
      clear hg_ hnew_
      (first | rw [← Ny129.out] at ho9 | (simp only [Int.reduceToNat] at ho9; rw [← Ny129.out] at ho9))
      have HO131 := Aside0.mk (Kd.R_lower ho9 (below_size (bS2 HB GE127 GE128)))
      replace BK127 := bB BK127 hb
      replace BK128 := bB BK128 hb
      replace HB := Aside0.mk (below_step (bS2 HB GE127 GE128) hb)
      clear hb ho9
      refine hK.out _ _ (c4e BK127) (fun hHeld => ?_)
      clear hK K
      refine normS (N := (some 5)) ?_
      exact normJ (hJ0 (v130) _ ⟨hHeld, (RS HO131), (blkS BK127), (blkS BK128), (bS2 HB GE127 GE128)⟩)
     ·skip
      refine litE k97 97 (N := 9) ?_
      intro v136 w8 ho9 hb hg_ hnew_
      clear hg_ hnew_
      (first | rw [← Ny135.out] at ho9 | (simp only [Int.reduceToNat] at ho9; rw [← Ny135.out] at ho9))
      have HO137 := Aside0.mk (Kd.R_lower ho9 (below_size (bS2 HB GE127 GE128)))
      replace BK127 := bB BK127 hb
      replace BK128 := bB BK128 hb
      replace HB := Aside0.mk (below_step (bS2 HB GE127 GE128) hb)
      clear hb ho9
      refine hK.out _ _ (c4e BK127) (fun hHeld => ?_)
      clear hK K
      refine normS (N := (some 9)) ?_
      exact normJ (hJ4 (v136) _ ⟨hHeld, (RS HO137), (blkS BK127), (blkS BK128), (bS2 HB GE127 GE128)⟩)
     ·skip
      refine litE k111 111 (N := 13) ?_
      intro v142 w8 ho9 hb hg_ hnew_
      clear hg_ hnew_
      (first | rw [← Ny141.out] at ho9 | (simp only [Int.reduceToNat] at ho9; rw [← Ny141.out] at ho9))
      have HO143 := Aside0.mk (Kd.R_lower ho9 (below_size (bS2 HB GE127 GE128)))
      replace BK127 := bB BK127 hb
      replace BK128 := bB BK128 hb
      replace HB := Aside0.mk (below_step (bS2 HB GE127 GE128) hb)
      clear hb ho9
      refine hK.out _ _ (c4e BK127) (fun hHeld => ?_)
      clear hK K
      refine normS (N := (some 13)) ?_
      exact normJ (hJ8 (v142) _ ⟨hHeld, (RS HO143), (blkS BK127), (blkS BK128), (bS2 HB GE127 GE128)⟩)
     ·skip
      refine box_step ?hg (N := 3) ?hd (cs := #[.slice none 0 0, .slice none 0 0, .slice none 0 0, .slice none 0 0]) (t := 39) ?hr ?_; (case hd => rfl); (case hg => rfl); (case hr => first | (go_simp; done) | (go_simp; rfl))
      intro gb147 hg w8 hbox hb
      have BK147 := Aside0.mk (hbox)
      have GW147 := Aside0.mk ((by rw [hg]; exact (below_size (bS2 HB GE127 GE128)) : w.heap.size ≤ gb147))
      have GE147 := Aside0.mk ((by rw [hg]; exact (below_size (bS2 HB GE127 GE128)) : w.heap.size ≤ gb147))
      have NB127_147 := nLt BK127 hg
      have NB147_127 := nGt BK127 hg
      have NB128_147 := nLt BK128 hg
      have NB147_128 := nGt BK128 hg
      replace BK127 := bB BK127 hb
      replace BK128 := bB BK128 hb
      replace HB := Aside0.mk (below_step (bS2 HB GE127 GE128) hb)
      clear hb hbox hg
      refine hK.out _ _ (c4e BK127) (fun hHeld => ?_)
      clear hK K
      refine normS (N := (some 3)) ?_
      exact normJ (hJ13 (gb147) _ ⟨hHeld, (blkS BK127), (blkS BK128), (blkS BK147), GW147.out, GE147.out, NB127_147.out, NB147_127.out, NB128_147.out, NB147_128.out, (bS3 HB GE127 GE128 GE147)⟩)
    clear BK127 BK128 HB
    rintro ⟨v130, v133, v136, v139, v142, v145, gb147⟩ w21 ⟨hHeld, h0_, h1_, h2_, h3_, h4_, h5_, h6_, h7_, h8_, h9_, h10_, h11_, h12_⟩
    have HO134 := Aside0.mk h0_; have HO140 := Aside0.mk h1_; have HO146 := Aside0.mk h2_; have BK127 := Aside0.mk h3_; have BK128 := Aside0.mk h4_; have BK147 := Aside0.mk h5_; have GW147 := Aside0.mk h6_; have GE147 := Aside0.mk h7_; have NB127_147 := Aside0.mk h8_; have NB147_127 := Aside0.mk h9_; have NB128_147 := Aside0.mk h10_; have NB147_128 := Aside0.mk h11_; have HB := Aside0.mk h12_
    clear h0_ h1_ h2_ h3_ h4_ h5_ h6_ h7_ h8_ h9_ h10_ h11_ h12_
    obtain ⟨Ao22, co22, eo22⟩ := Kd.R_slice HO146.out
    (first | subst eo22 | (injection eo22 with f1_ f2_ f3_; have f4_ := f1_.symm; have f5_ := f3_.symm; clear f1_ f2_ f3_; subst f4_; subst f5_))
    obtain ⟨Ao23, co23, eo23⟩ := Kd.R_slice HO140.out
    (first | subst eo23 | (injection eo23 with f1_ f2_ f3_; have f4_ := f1_.symm; have f5_ := f3_.symm; clear f1_ f2_ f3_; subst f4_; subst f5_))
    obtain ⟨Ao24, co24, eo24⟩ := Kd.R_slice HO134.out
    (first | subst eo24 | (injection eo24 with f1_ f2_ f3_; have f4_ := f1_.symm; have f5_ := f3_.symm; clear f1_ f2_ f3_; subst f4_; subst f5_))
    refine normP ?_
    refine oneS (i := 14) (N := none) HT_ (fun K hK => ?_)
    have hs25 : w21.cell? ⟨gb147, 0, none⟩ = some (.slice none 0 0) := (blk_cell BK147.out 0).trans rfl
    have hfs25 := blk_frozen BK147.out 0
    have hns25_0 := NB127_147.out
    have hns25_1 := NB128_147.out
    have hms25_0 := NB147_127.out
    have hms25_1 := NB147_128.out
    have hs26 : w21.cell? ⟨gb147, 1, none⟩ = some (.slice none 0 0) := (blk_cell BK147.out 1).trans rfl
    have hfs26 := blk_frozen BK147.out 1
    have hns26_0 := NB127_147.out
    have hns26_1 := NB128_147.out
    have hms26_0 := NB147_127.out
    have hms26_1 := NB147_128.out
    have hs27 : w21.cell? ⟨gb147, 2, none⟩ = some (.slice none 0 0) := (blk_cell BK147.out 2).trans rfl
    have hfs27 := blk_frozen BK147.out 2
    have hns27_0 := NB127_147.out
    have hns27_1 := NB128_147.out
    have hms27_0 := NB147_127.out
    have hms27_1 := NB147_128.out
    have hs28 : w21.cell? ⟨gb147, 3, none⟩ = some (.slice none 0 0) := (blk_cell BK147.out 3).trans rfl
    have hfs28 := blk_frozen BK147.out 3
    have hns28_0 := NB127_147.out
    have hns28_1 := NB128_147.out
    have hms28_0 := NB147_127.out
    have hms28_1 := NB147_128.out
    refine skip_ (w1 := ?_) (by rfl) rfl ?_ ?_
    rotate_left
    ·go_simp
     rfl
    refine hK.out _ _ ⟨((cell_far (p := ⟨gb147, _, none⟩) NB127_147.out _).trans (((cell_far (p := ⟨gb147, _, none⟩) NB127_147.out _).trans (((cell_far (p := ⟨gb147, _, none⟩) NB127_147.out _).trans (((cell_far (p := ⟨gb147, _, none⟩) NB127_147.out _).trans (hHeld.1)))))))), ((cell_far (p := ⟨gb147, _, none⟩) NB127_147.out _).trans (((cell_far (p := ⟨gb147, _, none⟩) NB127_147.out _).trans (((cell_far (p := ⟨gb147, _, none⟩) NB127_147.out _).trans (((cell_far (p := ⟨gb147, _, none⟩) NB127_147.out _).trans (hHeld.2.1)))))))), ((cell_far (p := ⟨gb147, _, none⟩) NB127_147.out _).trans (((cell_far (p := ⟨gb147, _, none⟩) NB127_147.out _).trans (((cell_far (p := ⟨gb147, _, none⟩) NB127_147.out _).trans (((cell_far (p := ⟨gb147, _, none⟩) NB127_147.out _).trans (hHeld.2.2.1)))))))), ((cell_far (p := ⟨gb147, _, none⟩) NB127_147.out _).trans (((cell_far (p := ⟨gb147, _, none⟩) NB127_147.out _).trans (((cell_far (p := ⟨gb147, _, none⟩) NB127_147.out _).trans (((cell_far (p := ⟨gb147, _, none⟩) NB127_147.out _).trans (hHeld.2.2.2))))))))⟩ (fun hHeld => ?_)
    clear hK K
    refine done_ (done_of HT_.out (by kernel_rfl)) ?_
    try go_wp2
    go_loopg [4] k (fun kq v4 w' => ∃ (x4_1 : Int) (x148002_1 : List (S74)) (u148002 : Value), v4 = .int .i64 x4_1 ∧ Aside0 (topiaryref14_Copy.l0 kq x4_1 l0_0 l0_1 l0_2 l0_3 y132 y138 x148002_1 y144 = some (r1, r2, r3, r4)) ∧ Aside0 (kq ≤ k) ∧ Aside0 (Kd.R k52 52 w' w.heap.size (fun _ => True) (.slice Ao24 y132.length co24) y132) ∧ Aside0 (Kd.R k97 97 w' w.heap.size (fun _ => True) (.slice Ao23 y138.length co23) y138) ∧ Aside0 (Kd.S k74 74 w' w.heap.size (fun _ => True) u148002 x148002_1) ∧ Aside0 (Kd.R k111 111 w' w.heap.size (fun _ => True) (.slice Ao22 y144.length co22) y144) ∧ Aside0 (w'.heap[gb127]? = some (.cells #[(.slice A0_0 l0_0.length c0_0), (.slice A0_1 l0_1.length c0_1), (.slice A0_2 l0_2.length c0_2), (.slice A0_3 l0_3.length c0_3)] 39 (0, 0))) ∧ Aside0 (w'.heap[gb128]? = some (.cells #[(.slice none 0 0), (.slice none 0 0), (.slice none 0 0), (.slice none 0 0)] 39 (0, 0))) ∧ Aside0 (w'.heap[gb147]? = some (.cells #[(.slice Ao24 y132.length co24), (.slice Ao23 y138.length co23), u148002, (.slice Ao22 y144.length co22)] 39 (0, 0))) ∧ Aside0 (Below w.heap.size w w'))
    case atStart => exact ⟨(0), (([] : List (S74))), (.slice none 0 0), (by first | rfl | (simp; done) | (simp [*]; done)), H', ⟨Nat.le_refl _⟩, ⟨by (with_reducible repeat (first | apply Kd.R_alloc | apply Kd.R_drewN | apply Kd.R_drew)); exact Kd.R_mono (Kd.R_far (p := ⟨gb147, 3, none⟩) (Kd.R_far (p := ⟨gb147, 2, none⟩) (Kd.R_far (p := ⟨gb147, 1, none⟩) (Kd.R_far (p := ⟨gb147, 0, none⟩) (Kd.R_types HO134.out BK147.out (by decide)) (fun _ hk => hk.2) (.slice Ao24 y132.length co24)) (fun _ hk => hk.2) (.slice Ao23 y138.length co23)) (fun _ hk => hk.2) (.slice none 0 0)) (fun _ hk => hk.2) (.slice Ao22 y144.length co22)) (fun _ hk => trivial)⟩, ⟨by (with_reducible repeat (first | apply Kd.R_alloc | apply Kd.R_drewN | apply Kd.R_drew)); exact Kd.R_mono (Kd.R_far (p := ⟨gb147, 3, none⟩) (Kd.R_far (p := ⟨gb147, 2, none⟩) (Kd.R_far (p := ⟨gb147, 1, none⟩) (Kd.R_far (p := ⟨gb147, 0, none⟩) (Kd.R_types HO140.out BK147.out (by decide)) (fun _ hk => hk.2) (.slice Ao24 y132.length co24)) (fun _ hk => hk.2) (.slice Ao23 y138.length co23)) (fun _ hk => hk.2) (.slice none 0 0)) (fun _ hk => hk.2) (.slice Ao22 y144.length co22)) (fun _ hk => trivial)⟩, ⟨by first | exact Kd.S_nil _ _ _ _ _ | exact Kd.N_nil _ _ _ _ _ | exact Kd.V_nil _ _ _ _ _ | exact Kd.Q_nil _ _ _ _ _ | exact Kd.R_nil _ _ _ _ _⟩, ⟨by (with_reducible repeat (first | apply Kd.R_alloc | apply Kd.R_drewN | apply Kd.R_drew)); exact Kd.R_mono (Kd.R_far (p := ⟨gb147, 3, none⟩) (Kd.R_far (p := ⟨gb147, 2, none⟩) (Kd.R_far (p := ⟨gb147, 1, none⟩) (Kd.R_far (p := ⟨gb147, 0, none⟩) (Kd.R_types HO146.out BK147.out (by decide)) (fun _ hk => hk.2) (.slice Ao24 y132.length co24)) (fun _ hk => hk.2) (.slice Ao23 y138.length co23)) (fun _ hk => hk.2) (.slice none 0 0)) (fun _ hk => hk.2) (.slice Ao22 y144.length co22)) (fun _ hk => trivial)⟩, ⟨by (with_reducible repeat (first | refine blk_drewN ?_ _ | refine blk_drew ?_ | refine blk_alloc ?_ _)); refine blk_far ?_ NB127_147.out _; (with_reducible repeat (first | refine blk_drewN ?_ _ | refine blk_drew ?_ | refine blk_alloc ?_ _)); refine blk_far ?_ NB127_147.out _; (with_reducible repeat (first | refine blk_drewN ?_ _ | refine blk_drew ?_ | refine blk_alloc ?_ _)); refine blk_far ?_ NB127_147.out _; (with_reducible repeat (first | refine blk_drewN ?_ _ | refine blk_drew ?_ | refine blk_alloc ?_ _)); refine blk_far ?_ NB127_147.out _; (with_reducible repeat (first | refine blk_drewN ?_ _ | refine blk_drew ?_ | refine blk_alloc ?_ _)); exact BK127.out⟩, ⟨by (with_reducible repeat (first | refine blk_drewN ?_ _ | refine blk_drew ?_ | refine blk_alloc ?_ _)); refine blk_far ?_ NB128_147.out _; (with_reducible repeat (first | refine blk_drewN ?_ _ | refine blk_drew ?_ | refine blk_alloc ?_ _)); refine blk_far ?_ NB128_147.out _; (with_reducible repeat (first | refine blk_drewN ?_ _ | refine blk_drew ?_ | refine blk_alloc ?_ _)); refine blk_far ?_ NB128_147.out _; (with_reducible repeat (first | refine blk_drewN ?_ _ | refine blk_drew ?_ | refine blk_alloc ?_ _)); refine blk_far ?_ NB128_147.out _; (with_reducible repeat (first | refine blk_drewN ?_ _ | refine blk_drew ?_ | refine blk_alloc ?_ _)); exact BK128.out⟩, ⟨by (with_reducible repeat (first | refine blk_drewN ?_ _ | refine blk_drew ?_ | refine blk_alloc ?_ _)); refine blk_put (cs := #[.slice Ao24 y132.length co24, .slice Ao23 y138.length co23, .slice none 0 0, .slice none 0 0]) ?_ 3 _ rfl; (with_reducible repeat (first | refine blk_drewN ?_ _ | refine blk_drew ?_ | refine blk_alloc ?_ _)); refine blk_put (cs := #[.slice Ao24 y132.length co24, .slice Ao23 y138.length co23, .slice none 0 0, .slice none 0 0]) ?_ 2 _ rfl; (with_reducible repeat (first | refine blk_drewN ?_ _ | refine blk_drew ?_ | refine blk_alloc ?_ _)); refine blk_put (cs := #[.slice Ao24 y132.length co24, .slice none 0 0, .slice none 0 0, .slice none 0 0]) ?_ 1 _ rfl; (with_reducible repeat (first | refine blk_drewN ?_ _ | refine blk_drew ?_ | refine blk_alloc ?_ _)); refine blk_put (cs := #[.slice none 0 0, .slice none 0 0, .slice none 0 0, .slice none 0 0]) ?_ 0 _ rfl; (with_reducible repeat (first | refine blk_drewN ?_ _ | refine blk_drew ?_ | refine blk_alloc ?_ _)); exact BK147.out⟩, ⟨bS3 HB GE127 GE128 GE147⟩⟩
    case round =>
     clear H'
     (try clear p2); (try clear c3); (try clear c4)
     obtain ⟨x4_1, x148002_1, u148002, rfl, HA, HK1, HO_148000, HO_148001, HO_148002, HO_148003, BK127, BK128, BK147, HB⟩ := hrel
     cases gk with
     | zero => exact absurd HA.out (by simp [topiaryref14_Copy.l0])
     | succ k1 =>
      have H := HA.out
      clear HA
      simp only [topiaryref14_Copy.l0] at H
      by_cases c29 : x4_1 < (l0_2.length : Int)
      ·rw [if_pos c29] at H
       have c29b0 : decide (x4_1 < (l0_2.length : Int)) = true := decide_eq_true c29
       clear c29
       by_cases c30 : 0 ≤ x4_1
       ·rw [if_pos c30] at H
        have c30b0 : decide (0 ≤ x4_1) = true := decide_eq_true c30
        clear c30
        obtain ⟨y149, hy149⟩ : ∃ y_ : List (S23), y_ = (([] : List (S23))) := ⟨_, rfl⟩
        replace H : (if y149.length + ((rd_T74 l0_2 x4_1).f1).length < 8796093022208 then (if x148002_1.length < 3518437208883 then (topiaryref14_Copy.l0 k1 (wrap64 (x4_1 + 1)) l0_0 l0_1 l0_2 l0_3 y132 y138 (x148002_1 ++ [(⟨(⟨(rd_T74 l0_2 x4_1).f0.f0, (rd_T74 l0_2 x4_1).f0.f1⟩ : S23), (y149 ++ ((rd_T74 l0_2 x4_1).f1))⟩ : S74)]) y144) else (none)) else (none)) = some (r1, r2, r3, r4) := by first | (rw [hy149]; with_reducible exact H) | (have H2_ := (Option.bind_some _ _).symm.trans H; rw [hy149]; with_reducible exact H2_) | (have H2_ := (Option.bind_some _ _).symm.trans H; with_reducible exact H2_) | with_reducible exact H | (rw [hy149]; exact H) | exact H
        have Ny149 := Aside0.mk hy149
        clear hy149
        by_cases c31 : y149.length + ((rd_T74 l0_2 x4_1).f1).length < 8796093022208
        ·rw [if_pos c31] at H
         have LMc31 := Aside0.mk c31
         clear c31
         obtain ⟨y153, hy153⟩ : ∃ y_ : List (S23), y_ = (y149 ++ ((rd_T74 l0_2 x4_1).f1)) := ⟨_, rfl⟩
         replace H : (if x148002_1.length < 3518437208883 then (topiaryref14_Copy.l0 k1 (wrap64 (x4_1 + 1)) l0_0 l0_1 l0_2 l0_3 y132 y138 (x148002_1 ++ [(⟨(⟨(rd_T74 l0_2 x4_1).f0.f0, (rd_T74 l0_2 x4_1).f0.f1⟩ : S23), y153⟩ : S74)]) y144) else (none)) = some (r1, r2, r3, r4) := by first | (rw [hy153]; with_reducible exact H) | (have H2_ := (Option.bind_some _ _).symm.trans H; rw [hy153]; with_reducible exact H2_) | (have H2_ := (Option.bind_some _ _).symm.trans H; with_reducible exact H2_) | with_reducible exact H | (rw [hy153]; exact H) | exact H
         have Ny153 := Aside0.mk hy153
         clear hy153
         by_cases c32 : x148002_1.length < 3518437208883
         ·rw [if_pos c32] at H
          have LMc32 := Aside0.mk c32
          clear c32
          obtain ⟨y156, hy156⟩ : ∃ y_ : List (S74), y_ = (x148002_1 ++ [(⟨(⟨(rd_T74 l0_2 x4_1).f0.f0, (rd_T74 l0_2 x4_1).f0.f1⟩ : S23), y153⟩ : S74)]) := ⟨_, rfl⟩
          replace H : (topiaryref14_Copy.l0 k1 (wrap64 (x4_1 + 1)) l0_0 l0_1 l0_2 l0_3 y132 y138 y156 y144) = some (r1, r2, r3, r4) := by first | (rw [hy156]; with_reducible exact H) | (have H2_ := (Option.bind_some _ _).symm.trans H; rw [hy156]; with_reducible exact H2_) | (have H2_ := (Option.bind_some _ _).symm.trans H; with_reducible exact H2_) | with_reducible exact H | (rw [hy156]; exact H) | exact H
          have Ny156 := Aside0.mk hy156
          clear hy156
          have H' := Aside0.mk H
          clear H
          have hnb33 := NB127_128.out
          have hnc33 := NB128_127.out
          have hnb34 := NB127_147.out
          have hnc34 := NB147_127.out
          obtain ⟨hcz35_0, hcz35_1, hcz35_2, hcz35_3, hfz35_0, hfz35_1, hfz35_2, hfz35_3⟩ := b4e BK127
          try go_wp2
          replace HO_148000 := Aside0.mk (Kd.R_drew HO_148000.out)
          replace HO_148001 := Aside0.mk (Kd.R_drew HO_148001.out)
          replace HO_148002 := Aside0.mk (Kd.S_drew HO_148002.out)
          replace HO_148003 := Aside0.mk (Kd.R_drew HO_148003.out)
          replace BK127 := Aside0.mk (blk_drew BK127.out)
          replace BK128 := Aside0.mk (blk_drew BK128.out)
          replace BK147 := Aside0.mk (blk_drew BK147.out)
          replace HB := Aside0.mk (below_drew1 HB.out)
          have p148 : 0 ≤ (x4_1 : Int) := of_decide_eq_true asmS
          have q148 : x4_1 < (l0_2.length : Int) := of_decide_eq_true asmS
          obtain ⟨ad148, A148_2, c148_2, e148, hx148_0, hx148_1, hx148_2, hl148_2, hi148_2⟩ := at_T74 HR0_2.out x4_1 p148 q148
          have hw148_2 := hx148_2
          have hw148_1 := hx148_1
          have hw148_0 := hx148_0
          cases e148
          replace hx148_0 := (HB.out.cell (World.block_lt_of_cell? w _ hx148_0)).trans hx148_0
          replace hx148_1 := (HB.out.cell (World.block_lt_of_cell? w _ hx148_1)).trans hx148_1
          replace hx148_2 := (HB.out.cell (World.block_lt_of_cell? w _ hx148_2)).trans hx148_2
          have HR148_2 := Aside0.mk hi148_2
          have HC148_2 := Aside0.mk hl148_2
          clear hi148_2 hl148_2
          replace p148 := eq_true p148
          replace q148 := eq_true q148
          have p152 : 0 ≤ (x4_1 : Int) := of_decide_eq_true asmS
          have q152 : x4_1 < (l0_2.length : Int) := of_decide_eq_true asmS
          obtain ⟨ad152, A152_2, c152_2, e152, hx152_0, hx152_1, hx152_2, hl152_2, hi152_2⟩ := at_T74 HR0_2.out x4_1 p152 q152
          have hw152_2 := hx152_2
          have hw152_1 := hx152_1
          have hw152_0 := hx152_0
          obtain rfl : ad148 = ad152 := (by injection e152)
          replace hx152_0 := (HB.out.cell (World.block_lt_of_cell? w _ hx152_0)).trans hx152_0
          replace hx152_1 := (HB.out.cell (World.block_lt_of_cell? w _ hx152_1)).trans hx152_1
          replace hx152_2 := (HB.out.cell (World.block_lt_of_cell? w _ hx152_2)).trans hx152_2
          have HR152_2 := Aside0.mk hi152_2
          have HC152_2 := Aside0.mk hl152_2
          clear hi152_2 hl152_2
          replace p152 := eq_true p152
          replace q152 := eq_true q152
          have ea_ := Option.some.inj (hx148_2.symm.trans hx152_2)
          injection ea_ with ea_ en_ ec_
          subst ea_
          subst ec_
          clear en_
          refine startS (n := 21) (S := fun w' => w'.cell? ⟨gb147, 0, none⟩ = some (.slice Ao24 y132.length co24) ∧ w'.cell? ⟨gb147, 1, none⟩ = some (.slice Ao23 y138.length co23) ∧ w'.cell? ⟨gb147, 2, none⟩ = some (u148002) ∧ w'.cell? ⟨gb147, 3, none⟩ = some (.slice Ao22 y144.length co22) ∧ w'.cell? ⟨gb127, 0, none⟩ = some (.slice A0_0 l0_0.length c0_0) ∧ w'.cell? ⟨gb127, 1, none⟩ = some (.slice A0_1 l0_1.length c0_1) ∧ w'.cell? ⟨gb127, 2, none⟩ = some (.slice (some ad148) l0_2.length c0_2) ∧ w'.cell? ⟨gb127, 3, none⟩ = some (.slice A0_3 l0_3.length c0_3) ∧ w'.cell? (ad148.add ((x4_1).toNat * 3)) = some (.int .i64 ((rd_T74 l0_2 x4_1).f0.f0)) ∧ w'.cell? ⟨(ad148.add ((x4_1).toNat * 3)).block, (ad148.add ((x4_1).toNat * 3)).off + 1, none⟩ = some (.int .i64 ((rd_T74 l0_2 x4_1).f0.f1)) ∧ w'.cell? ⟨(ad148.add ((x4_1).toNat * 3)).block, (ad148.add ((x4_1).toNat * 3)).off + 2, none⟩ = some (.slice A148_2 ((rd_T74 l0_2 x4_1).f1).length c148_2) ∧ w'.cell? (ad148.add ((x4_1).toNat * 3)) = some (.int .i64 ((rd_T74 l0_2 x4_1).f0.f0)) ∧ w'.cell? ⟨(ad148.add ((x4_1).toNat * 3)).block, (ad148.add ((x4_1).toNat * 3)).off + 1, none⟩ = some (.int .i64 ((rd_T74 l0_2 x4_1).f0.f1)) ∧ w'.cell? ⟨(ad148.add ((x4_1).toNat * 3)).block, (ad148.add ((x4_1).toNat * 3)).off + 2, none⟩ = some (.slice A148_2 ((rd_T74 l0_2 x4_1).f1).length c148_2)) (ds := [20]) ⟨(blk_cell BK147.out 0).trans rfl, (blk_cell BK147.out 1).trans rfl, (blk_cell BK147.out 2).trans rfl, (blk_cell BK147.out 3).trans rfl, (blk_cell BK127.out 0).trans rfl, (blk_cell BK127.out 1).trans rfl, (blk_cell BK127.out 2).trans rfl, (blk_cell BK127.out 3).trans rfl, cS HB hw148_0, cS HB hw148_1, cS HB hw148_2, cS HB hw152_0, cS HB hw152_1, cS HB hw152_2⟩ (fun hHeld => ?_); refine with_tabW topiaryref14_Copy.tab5 topiaryref14_Copy.bits5 (fun HT_ HW_ => ?_)
          generalize wr.drew = w36 at HO_148000 HO_148001 HO_148002 HO_148003 BK127 BK128 BK147 HB HR148_2 HR152_2 hx148_0 hx148_1 hx148_2 hx152_0 hx152_1 hx152_2 hHeld ⊢
          refine pureT (i := 0) (N := some 25) HT_ ?_
          refine pureT (i := 2) (N := some 27) HT_ ?_
          refine pureT (i := 4) (N := some 29) HT_ ?_
          refine pureT (i := 9) (N := some 34) HT_ ?_
          refine pureT (i := 11) (N := some 36) HT_ ?_
          refine takeS (i := 1) (N := some 26) (v := ?_) HT_ HW_ hHeld ?_ ?_
          rotate_left
          ·rintro w' ⟨s0, s1, s2, s3, s4, s5, s6, s7, s8, s9, s10, s11, s12, s13⟩
           go_simp
           with_reducible rfl
          refine normS (N := some 26) ?_
          refine takeS (i := 3) (N := some 28) (v := ?_) HT_ HW_ hHeld ?_ ?_
          rotate_left
          ·rintro w' ⟨s0, s1, s2, s3, s4, s5, s6, s7, s8, s9, s10, s11, s12, s13⟩
           go_simp
           with_reducible rfl
          refine normS (N := some 28) ?_
          refine pureT (i := 5) (N := some 30) HT_ ?_
          refine pureT (i := 6) (N := some 31) HT_ ?_
          refine takeS (i := 7) (N := some 32) (v := ?_) HT_ HW_ hHeld ?_ ?_
          rotate_left
          ·rintro w' ⟨s0, s1, s2, s3, s4, s5, s6, s7, s8, s9, s10, s11, s12, s13⟩
           go_simp
           with_reducible rfl
          refine normS (N := some 32) ?_
          refine takeS (i := 10) (N := some 35) (v := ?_) HT_ HW_ hHeld ?_ ?_
          rotate_left
          ·rintro w' ⟨s0, s1, s2, s3, s4, s5, s6, s7, s8, s9, s10, s11, s12, s13⟩
           go_simp
           with_reducible rfl
          refine normS (N := some 35) ?_
          refine pureT (i := 12) (N := some 37) HT_ ?_
          refine pureT (i := 13) (N := some 38) HT_ ?_
          refine takeS (i := 14) (N := some 39) (v := ?_) HT_ HW_ hHeld ?_ ?_
          rotate_left
          ·rintro w' ⟨s0, s1, s2, s3, s4, s5, s6, s7, s8, s9, s10, s11, s12, s13⟩
           go_simp
           with_reducible rfl
          refine normS (N := some 39) ?_
          refine oneS (i := 8) (N := some 33) HT_ (fun K hK => ?_)
          refine litE k23 23 (N := 33) ?_
          intro v150 w37 ho38 hb hg_ hnew_
          clear hg_ hnew_
          (first | rw [← Ny149.out] at ho38 | (simp only [Int.reduceToNat] at ho38; rw [← Ny149.out] at ho38))
          have HO151 := Aside0.mk (Kd.R_lower ho38 (below_size (bS3 HB GE127 GE128 GE147)))
          replace HO_148000 := Aside0.mk (Kd.R_below (RS HO_148000) hb)
          replace HO_148001 := Aside0.mk (Kd.R_below (RS HO_148001) hb)
          replace HO_148002 := Aside0.mk (Kd.S_elder' (SSS HO_148002) (Kd.R_base ho38) hb)
          replace HO_148003 := Aside0.mk (Kd.R_below (RS HO_148003) hb)
          replace BK127 := bB BK127 hb
          replace BK128 := bB BK128 hb
          replace BK147 := bB BK147 hb
          replace HB := Aside0.mk (below_step (bS3 HB GE127 GE128 GE147) hb)
          clear hb ho38
          refine hK.out _ _ ⟨(blk_cell BK147.out 0).trans rfl, (blk_cell BK147.out 1).trans rfl, (blk_cell BK147.out 2).trans rfl, (blk_cell BK147.out 3).trans rfl, (blk_cell BK127.out 0).trans rfl, (blk_cell BK127.out 1).trans rfl, (blk_cell BK127.out 2).trans rfl, (blk_cell BK127.out 3).trans rfl, cS HB hw148_0, cS HB hw148_1, cS HB hw148_2, cS HB hw152_0, cS HB hw152_1, cS HB hw152_2⟩ (fun hHeld => ?_)
          clear hK K
          refine normS (N := (some 33)) ?_
          refine oneS (i := 15) (N := some 40) HT_ (fun K hK => ?_)
          refine Kd.R_append_rows_step k23 (w0 := w) w.heap.size (by rfl) (.tmp 33) (.tmp 39) 48 23 (.agg #[(.int .i64 0), (.int .i64 0)]) 16 rfl Try.underlying48 info23 rfl (by decide) (by omega) v150 y149 ((rd_T74 l0_2 x4_1).f1) _ _ _ (fun _ => True) (fun _ => False) rfl rfl ?aO ?aR (fun _ _ h => h) (fun _ h => h.elim) ?aF ?aB ?aS ?aL ?_
          (case aR => repeat (first | exact (Kd.C_below HR152_2.out HB.out) | (with_reducible refine Kd.C_alloc ?_ _) | (with_reducible refine Kd.C_drewN ?_ _) | (with_reducible refine Kd.C_drew ?_)))
          (case aB => exact (bS3 HB GE127 GE128 GE147))
          (case aF => exact (fun _ _ => trivial))
          (case aO => exact (RS HO151))
          (case aS => exact (below_size (bS3 HB GE127 GE128 GE147)))
          (case aL => have := LMc31.out; omega)
          intro v154 w39 ho hb hg hat
          rw [← Ny153.out] at ho
          replace HO_148000 := Aside0.mk (Kd.R_over' (RS HO_148000) (Kd.R_typed (RS HO151)) (by decide) hg)
          replace HO_148001 := Aside0.mk (Kd.R_over' (RS HO_148001) (Kd.R_typed (RS HO151)) (by decide) hg)
          replace HO_148002 := Aside0.mk (Kd.S_after (ok := (fun _ => True)) (SSS HO_148002) hg hat)
          replace HO_148003 := Aside0.mk (Kd.R_over' (RS HO_148003) (Kd.R_typed (RS HO151)) (by decide) hg)
          replace BK127 := Aside0.mk (blk_grown (blkS BK127) hg (Kd.R_ne HO151.out BK127.out (by decide)))
          replace BK128 := Aside0.mk (blk_grown (blkS BK128) hg (Kd.R_ne HO151.out BK128.out (by decide)))
          replace BK147 := Aside0.mk (blk_grown (blkS BK147) hg (Kd.R_ne HO151.out BK147.out (by decide)))
          replace HB := Aside0.mk (hb)
          have HO155 := Aside0.mk (ho)
          clear HO151 ho hb hg hat
          obtain ⟨Ao40, co40, eo40⟩ := Kd.R_slice HO155.out
          (first | subst eo40 | (injection eo40 with f1_ f2_ f3_; have f4_ := f1_.symm; have f5_ := f3_.symm; clear f1_ f2_ f3_; subst f4_; subst f5_))
          refine hK.out _ _ ⟨(blk_cell BK147.out 0).trans rfl, (blk_cell BK147.out 1).trans rfl, (blk_cell BK147.out 2).trans rfl, (blk_cell BK147.out 3).trans rfl, (blk_cell BK127.out 0).trans rfl, (blk_cell BK127.out 1).trans rfl, (blk_cell BK127.out 2).trans rfl, (blk_cell BK127.out 3).trans rfl, cS HB hw148_0, cS HB hw148_1, cS HB hw148_2, cS HB hw152_0, cS HB hw152_1, cS HB hw152_2⟩ (fun hHeld => ?_)
          clear hK K
          refine normS (N := (some 40)) ?_
          refine pureT (i := 16) (N := some 41) HT_ ?_
          refine oneS (i := 17) (N := some 42) HT_ (fun K hK => ?_)
          refine value_ (w1 := ?_) (v := ?_) (by rfl) rfl ?_ ?_
          rotate_left 2
          ·go_simp
           constructor
           ·rfl
           ·rfl
          refine hK.out _ _ ⟨(blk_cell (blk_alloc BK147.out _) 0).trans rfl, (blk_cell (blk_alloc BK147.out _) 1).trans rfl, (blk_cell (blk_alloc BK147.out _) 2).trans rfl, (blk_cell (blk_alloc BK147.out _) 3).trans rfl, (blk_cell (blk_alloc BK127.out _) 0).trans rfl, (blk_cell (blk_alloc BK127.out _) 1).trans rfl, (blk_cell (blk_alloc BK127.out _) 2).trans rfl, (blk_cell (blk_alloc BK127.out _) 3).trans rfl, (World.cell?_alloc_lt _ _ _ (World.block_lt_of_cell? _ _ (((HB.out.cell (World.block_lt_of_cell? w _ hw148_0)).trans hw148_0)))).trans (((HB.out.cell (World.block_lt_of_cell? w _ hw148_0)).trans hw148_0)), (World.cell?_alloc_lt _ _ _ (World.block_lt_of_cell? _ _ (((HB.out.cell (World.block_lt_of_cell? w _ hw148_1)).trans hw148_1)))).trans (((HB.out.cell (World.block_lt_of_cell? w _ hw148_1)).trans hw148_1)), (World.cell?_alloc_lt _ _ _ (World.block_lt_of_cell? _ _ (((HB.out.cell (World.block_lt_of_cell? w _ hw148_2)).trans hw148_2)))).trans (((HB.out.cell (World.block_lt_of_cell? w _ hw148_2)).trans hw148_2)), (World.cell?_alloc_lt _ _ _ (World.block_lt_of_cell? _ _ (((HB.out.cell (World.block_lt_of_cell? w _ hw152_0)).trans hw152_0)))).trans (((HB.out.cell (World.block_lt_of_cell? w _ hw152_0)).trans hw152_0)), (World.cell?_alloc_lt _ _ _ (World.block_lt_of_cell? _ _ (((HB.out.cell (World.block_lt_of_cell? w _ hw152_1)).trans hw152_1)))).trans (((HB.out.cell (World.block_lt_of_cell? w _ hw152_1)).trans hw152_1)), (World.cell?_alloc_lt _ _ _ (World.block_lt_of_cell? _ _ (((HB.out.cell (World.block_lt_of_cell? w _ hw152_2)).trans hw152_2)))).trans (((HB.out.cell (World.block_lt_of_cell? w _ hw152_2)).trans hw152_2))⟩ (fun hHeld => ?_)
          clear hK K
          refine normS (N := (some 42)) ?_
          refine oneS (i := 18) (N := some 43) HT_ (fun K hK => ?_)
          refine Kd.S_append_step k74 (w0 := w) w.heap.size (by rfl) (.tmp 26) (.tmp 42) 36 74 (.agg #[(.int .i64 0), (.int .i64 0), (.slice none 0 0)]) 40 rfl Try.underlying36 info74 rfl (by decide) (by omega) u148002 x148002_1 (⟨(⟨(rd_T74 l0_2 x4_1).f0.f0, (rd_T74 l0_2 x4_1).f0.f1⟩ : S23), y153⟩ : S74) [.int .i64 ((rd_T74 l0_2 x4_1).f0.f0), .int .i64 ((rd_T74 l0_2 x4_1).f0.f1), .slice Ao40 y153.length co40] (fun _ => True) (fun k_ => some k_ = (.slice Ao40 y153.length co40 : Value).ownBlock) rfl rfl ?aP (fun k_ hk_ => ((Kd.R_mono (ok' := fun k_ => ((fun _ => True)) k_ ∧ some k_ ≠ (u148002 : Value).ownBlock) (Kd.R_apart' (HO155.out) (Kd.S_typed HO_148002.out) (by decide)) (fun k_ hk => ⟨trivial, hk.2⟩))).1 k_ hk_.symm) ?aF ?aO ?aB ?aS ?aL ?_
          (case aP => exact k74_mkM _ _ _ (⟨(⟨(rd_T74 l0_2 x4_1).f0.f0, (rd_T74 l0_2 x4_1).f0.f1⟩ : S23), y153⟩ : S74) (Kd.R_mono (Kd.R_tight rfl (Kd.R_mono (ok' := fun k_ => ((fun _ => True)) k_ ∧ some k_ ≠ (u148002 : Value).ownBlock) (Kd.R_apart' (HO155.out) (Kd.S_typed HO_148002.out) (by decide)) (fun k_ hk => ⟨trivial, hk.2⟩))) (fun _ h_ => h_)))
          (case aB => exact (bS3 HB GE127 GE128 GE147))
          (case aF => exact (fun _ _ => trivial))
          (case aO => exact (by (with_reducible repeat (first | apply Kd.S_alloc | apply Kd.S_drewN | apply Kd.S_drew)); exact Kd.S_mono HO_148002.out (fun k_ hk => ⟨trivial, fun e_ => hk.2 e_⟩)))
          (case aS => exact (below_size (bS3 HB GE127 GE128 GE147)))
          (case aL => have := LMc32.out; omega)
          intro v157 w41 ho hb hg hat
          rw [← Ny156.out] at ho
          replace HO_148000 := Aside0.mk (Kd.R_over' (RS HO_148000) (Kd.S_typed (SSS HO_148002)) (by decide) hg)
          replace HO_148001 := Aside0.mk (Kd.R_over' (RS HO_148001) (Kd.S_typed (SSS HO_148002)) (by decide) hg)
          replace HO_148003 := Aside0.mk (Kd.R_over' (RS HO_148003) (Kd.S_typed (SSS HO_148002)) (by decide) hg)
          replace BK127 := Aside0.mk (blk_grown (blkS BK127) hg (Kd.S_ne HO_148002.out BK127.out (by decide)))
          replace BK128 := Aside0.mk (blk_grown (blkS BK128) hg (Kd.S_ne HO_148002.out BK128.out (by decide)))
          replace BK147 := Aside0.mk (blk_grown (blkS BK147) hg (Kd.S_ne HO_148002.out BK147.out (by decide)))
          replace HB := Aside0.mk (hb)
          have HO158 := Aside0.mk (ho)
          clear HO_148002 HO155 ho hb hg hat
          obtain ⟨Ao42, co42, eo42⟩ := Kd.S_slice HO158.out
          (first | subst eo42 | (injection eo42 with f1_ f2_ f3_; have f4_ := f1_.symm; have f5_ := f3_.symm; clear f1_ f2_ f3_; subst f4_; subst f5_))
          refine hK.out _ _ ⟨(blk_cell BK147.out 0).trans rfl, (blk_cell BK147.out 1).trans rfl, (blk_cell BK147.out 2).trans rfl, (blk_cell BK147.out 3).trans rfl, (blk_cell BK127.out 0).trans rfl, (blk_cell BK127.out 1).trans rfl, (blk_cell BK127.out 2).trans rfl, (blk_cell BK127.out 3).trans rfl, cS HB hw148_0, cS HB hw148_1, cS HB hw148_2, cS HB hw152_0, cS HB hw152_1, cS HB hw152_2⟩ (fun hHeld => ?_)
          clear hK K
          refine normS (N := (some 43)) ?_
          refine pureT (i := 19) (N := some 44) HT_ ?_
          refine lastS (i := 20) (N := none) HT_ (fun K hK => ?_)
          have hs43 : w41.cell? ⟨gb147, 2, none⟩ = some (u148002) := (blk_cell BK147.out 2).trans rfl
          have hfs43 := blk_frozen BK147.out 2
          have hns43_0 := NB127_147.out
          have hns43_1 := NB128_147.out
          have hms43_0 := NB147_127.out
          have hms43_1 := NB147_128.out
          refine skip_ (w1 := ?_) (by rfl) rfl ?_ ?_
          rotate_left
          ·go_simp
           rfl
          refine hK.out _ _ ?_
          clear hK K
          refine done_ (done_of HT_.out (by kernel_rfl)) ?_
          try go_wp2
          go_roundg k1
          case measure => have := HK1.out; omega
          case rel => exact ⟨(wrap64 (x4_1 + 1)), (y156), (.slice Ao42 y156.length co42), (by first | rfl | (simp; done) | (simp [*]; done)), H', ⟨by have := HK1.out; omega⟩, ⟨by (with_reducible repeat (first | apply Kd.R_alloc | apply Kd.R_drewN | apply Kd.R_drew)); exact Kd.R_mono (Kd.R_far (p := ⟨gb147, 2, none⟩) (Kd.R_types HO_148000.out BK147.out (by decide)) (fun _ hk => hk.2) (.slice Ao42 y156.length co42)) (fun _ hk => trivial)⟩, ⟨by (with_reducible repeat (first | apply Kd.R_alloc | apply Kd.R_drewN | apply Kd.R_drew)); exact Kd.R_mono (Kd.R_far (p := ⟨gb147, 2, none⟩) (Kd.R_types HO_148001.out BK147.out (by decide)) (fun _ hk => hk.2) (.slice Ao42 y156.length co42)) (fun _ hk => trivial)⟩, ⟨by (with_reducible repeat (first | apply Kd.S_alloc | apply Kd.S_drewN | apply Kd.S_drew)); exact Kd.S_mono (Kd.S_far (p := ⟨gb147, 2, none⟩) (Kd.S_types HO158.out BK147.out (by decide)) (fun _ hk => hk.2) (.slice Ao42 y156.length co42)) (fun _ hk => trivial)⟩, ⟨by (with_reducible repeat (first | apply Kd.R_alloc | apply Kd.R_drewN | apply Kd.R_drew)); exact Kd.R_mono (Kd.R_far (p := ⟨gb147, 2, none⟩) (Kd.R_types HO_148003.out BK147.out (by decide)) (fun _ hk => hk.2) (.slice Ao42 y156.length co42)) (fun _ hk => trivial)⟩, ⟨by (with_reducible repeat (first | refine blk_drewN ?_ _ | refine blk_drew ?_ | refine blk_alloc ?_ _)); refine blk_far ?_ NB127_147.out _; (with_reducible repeat (first | refine blk_drewN ?_ _ | refine blk_drew ?_ | refine blk_alloc ?_ _)); exact BK127.out⟩, ⟨by (with_reducible repeat (first | refine blk_drewN ?_ _ | refine blk_drew ?_ | refine blk_alloc ?_ _)); refine blk_far ?_ NB128_147.out _; (with_reducible repeat (first | refine blk_drewN ?_ _ | refine blk_drew ?_ | refine blk_alloc ?_ _)); exact BK128.out⟩, ⟨by (with_reducible repeat (first | refine blk_drewN ?_ _ | refine blk_drew ?_ | refine blk_alloc ?_ _)); refine blk_put (cs := #[.slice Ao24 y132.length co24, .slice Ao23 y138.length co23, u148002, .slice Ao22 y144.length co22]) ?_ 2 _ rfl; (with_reducible repeat (first | refine blk_drewN ?_ _ | refine blk_drew ?_ | refine blk_alloc ?_ _)); exact BK147.out⟩, ⟨bS3 HB GE127 GE128 GE147⟩⟩
         ·rw [if_neg c32] at H
          exact absurd H (by simp)
        ·rw [if_neg c31] at H
         exact absurd H (by simp)
       ·rw [if_neg c30] at H
        exact absurd H (by simp)
      ·rw [if_neg c29] at H
       have c29b0 : decide (x4_1 < (l0_2.length : Int)) = false := decide_eq_false c29
       clear c29
       simp only [Option.some.injEq, Prod.mk.injEq] at H
       obtain ⟨rfl, rfl, rfl, rfl⟩ := H
       have hnb44 := NB127_128.out
       have hnc44 := NB128_127.out
       have hnb45 := NB127_147.out
       have hnc45 := NB147_127.out
       obtain ⟨hcz46_0, hcz46_1, hcz46_2, hcz46_3, hfz46_0, hfz46_1, hfz46_2, hfz46_3⟩ := b4e BK127
       have hnb47 := NB147_128.out
       have hnc47 := NB128_147.out
       obtain ⟨hcz48_0, hcz48_1, hcz48_2, hcz48_3, hfz48_0, hfz48_1, hfz48_2, hfz48_3⟩ := b4e BK147
       obtain ⟨hcz49_0, hcz49_1, hcz49_2, hcz49_3, hfz49_0, hfz49_1, hfz49_2, hfz49_3⟩ := b4e BK128
       obtain ⟨Ao50, co50, eo50⟩ := Kd.S_slice HO_148002.out
       subst eo50
       go_wp2
       refine bodyPost_ret (results_cell_row rfl _ _ gb128 39 #[.slice Ao24 y132.length co24, .slice Ao23 y138.length co23, .slice Ao50 x148002_1.length co50, .slice Ao22 y144.length co22] (0, 0) _ rfl (by (with_reducible repeat (first | refine blk_drewN ?_ _ | refine blk_drew ?_ | refine blk_alloc ?_ _)); refine blk_put (cs := #[.slice Ao24 y132.length co24, .slice Ao23 y138.length co23, .slice Ao50 x148002_1.length co50, .slice none 0 0]) ?_ 3 _ rfl; (with_reducible repeat (first | refine blk_drewN ?_ _ | refine blk_drew ?_ | refine blk_alloc ?_ _)); refine blk_put (cs := #[.slice Ao24 y132.length co24, .slice Ao23 y138.length co23, .slice none 0 0, .slice none 0 0]) ?_ 2 _ rfl; (with_reducible repeat (first | refine blk_drewN ?_ _ | refine blk_drew ?_ | refine blk_alloc ?_ _)); refine blk_put (cs := #[.slice Ao24 y132.length co24, .slice none 0 0, .slice none 0 0, .slice none 0 0]) ?_ 1 _ rfl; (with_reducible repeat (first | refine blk_drewN ?_ _ | refine blk_drew ?_ | refine blk_alloc ?_ _)); refine blk_put (cs := #[.slice none 0 0, .slice none 0 0, .slice none 0 0, .slice none 0 0]) ?_ 0 _ rfl; (with_reducible repeat (first | refine blk_drewN ?_ _ | refine blk_drew ?_ | refine blk_alloc ?_ _)); exact BK128.out) Try.underlying39 rfl (by kernel_rfl)) rfl ?_
       exact ⟨_, _, _, _, by first | rfl | (simp [errW_none, errW_some] <;> rfl) | (simp [*, errW_none, errW_some] <;> rfl), by (with_reducible repeat (first | apply Kd.R_alloc | apply Kd.R_drewN | apply Kd.R_drew)); exact Kd.R_mono (Kd.R_far (p := ⟨gb128, 3, none⟩) (Kd.R_far (p := ⟨gb128, 2, none⟩) (Kd.R_far (p := ⟨gb128, 1, none⟩) (Kd.R_far (p := ⟨gb128, 0, none⟩) (Kd.R_types HO_148000.out BK128.out (by decide)) (fun _ hk => hk.2) (.slice Ao24 y132.length co24)) (fun _ hk => hk.2) (.slice Ao23 y138.length co23)) (fun _ hk => hk.2) (.slice Ao50 x148002_1.length co50)) (fun _ hk => hk.2) (.slice Ao22 y144.length co22)) (fun _ hk => trivial), by (with_reducible repeat (first | apply Kd.R_alloc | apply Kd.R_drewN | apply Kd.R_drew)); exact Kd.R_mono (Kd.R_far (p := ⟨gb128, 3, none⟩) (Kd.R_far (p := ⟨gb128, 2, none⟩) (Kd.R_far (p := ⟨gb128, 1, none⟩) (Kd.R_far (p := ⟨gb128, 0, none⟩) (Kd.R_types HO_148001.out BK128.out (by decide)) (fun _ hk => hk.2) (.slice Ao24 y132.length co24)) (fun _ hk => hk.2) (.slice Ao23 y138.length co23)) (fun _ hk => hk.2) (.slice Ao50 x148002_1.length co50)) (fun _ hk => hk.2) (.slice Ao22 y144.length co22)) (fun _ hk => trivial), by (with_reducible repeat (first | apply Kd.S_alloc | apply Kd.S_drewN | apply Kd.S_drew)); exact Kd.S_mono (Kd.S_far (p := ⟨gb128, 3, none⟩) (Kd.S_far (p := ⟨gb128, 2, none⟩) (Kd.S_far (p := ⟨gb128, 1, none⟩) (Kd.S_far (p := ⟨gb128, 0, none⟩) (Kd.S_types HO_148002.out BK128.out (by decide)) (fun _ hk => hk.2) (.slice Ao24 y132.length co24)) (fun _ hk => hk.2) (.slice Ao23 y138.length co23)) (fun _ hk => hk.2) (.slice Ao50 x148002_1.length co50)) (fun _ hk => hk.2) (.slice Ao22 y144.length co22)) (fun _ hk => trivial), by (with_reducible repeat (first | apply Kd.R_alloc | apply Kd.R_drewN | apply Kd.R_drew)); exact Kd.R_mono (Kd.R_far (p := ⟨gb128, 3, none⟩) (Kd.R_far (p := ⟨gb128, 2, none⟩) (Kd.R_far (p := ⟨gb128, 1, none⟩) (Kd.R_far (p := ⟨gb128, 0, none⟩) (Kd.R_types HO_148003.out BK128.out (by decide)) (fun _ hk => hk.2) (.slice Ao24 y132.length co24)) (fun _ hk => hk.2) (.slice Ao23 y138.length co23)) (fun _ hk => hk.2) (.slice Ao50 x148002_1.length co50)) (fun _ hk => hk.2) (.slice Ao22 y144.length co22)) (fun _ hk => trivial), bS3 HB GE127 GE128 GE147⟩
   ·rw [if_neg c4] at H
    exact absurd H (by simp)
  ·rw [if_neg c3] at H
   exact absurd H (by simp)
 ·rw [if_neg c2] at H
  exact absurd H (by simp)
theorem eqA52 (d : Nat) (w : World) (x0 y0 : Int) (x1 y1 : Int) (x2 y2 : ByteArray) :
  (Op.equalIn (d + 3) 52 (.agg #[.int .i64 x0, .int .i64 x1, .string x2]) (.agg #[.int .i64 y0, .int .i64 y1, .string y2])).run Try.prog w = .ok ((x0 == y0 && (x1 == y1)) && (x2.toList == y2.toList)) w := by
 refine eqA_of Try.underlying52 (by kernel_rfl) ?_
 refine eqf_cons (by rfl) (by go_simp) (by go_simp) (eqA23 (d + 0) w _ _ _ _) ?_
 exact eqf_last (by rfl) (by go_simp; rfl) (by go_simp; rfl) (by go_simp)
end Go.Proofs.Ytnkbgimihikhoaa.PVt
namespace Go.Proofs.Ytnkbgimihikhoaa.PVt
open Go.RowKit Go.Proofs.YtnkbgimihikhoaaW.PrintWords Go.Proofs.YtnkbgimihikhoaaW.PrintLast Go.Proofs.YtnkbgimihikhoaaW.PrintMore
attribute [local go_sem] max2_int min2_int max_two min_two max_three min_three max_four min_four
set_option linter.unusedVariables false
set_option linter.unusedSimpArgs false
attribute [local go_sem high] eqA23
def topiaryref01_Same.l0 : Nat → List (S23) → List (S23) → Int → Option (Bool)
 | 0, _, _, _ => none
 | k + 1, x0, x1, x5 => if x5 < (x0.length : Int) then (if 0 ≤ x5 then (if x5 < (x1.length : Int) then (if (!(((rd_T23 x0 x5).f0) == ((rd_T23 x1 x5).f0)) || (!(((rd_T23 x0 x5).f1) == ((rd_T23 x1 x5).f1)))) = true then (some false) else (topiaryref01_Same.l0 k x0 x1 (wrap64 (x5 + 1)))) else (none)) else (none)) else (some true)
def topiaryref01_Same.f (k : Nat) (l0 : List (S23)) (l1 : List (S23)) : Option (Bool) := if (l0.length : Int) = (l1.length : Int) then (topiaryref01_Same.l0 k l0 l1 0) else (some false)
set_option maxHeartbeats 8000000 in
set_option maxRecDepth 100000 in
theorem topiaryref01_Same.calls (k : Nat) (A0 : Option Addr) (c0 : Nat) (l0 : List (S23)) (A1 : Option Addr) (c1 : Nat) (l1 : List (S23)) (r : Bool) (w : World) (hr0 : Kd.C k23 w A0 l0.length l0) (hc0 : l0.length ≤ c0) (hr1 : Kd.C k23 w A1 l1.length l1) (hc1 : l1.length ≤ c1) (h : topiaryref01_Same.f k l0 l1 = some r) :
  Calls Try.prog 35 #[.slice A0 l0.length c0, .slice A1 l1.length c1] w fun e w' => e = .returned (.bool r) ∧ Drawn0 w w' := by
 have hu23 := Try.underlying23
 have HR0 := Aside0.mk hr0
 have HC0 := Aside0.mk hc0
 clear hr0 hc0
 have HR1 := Aside0.mk hr1
 have HC1 := Aside0.mk hc1
 clear hr1 hc1
 have H : (if (l0.length : Int) = (l1.length : Int) then (topiaryref01_Same.l0 k l0 l1 0) else (some false)) = some r := h
 clear h
 by_cases c3 : (l0.length : Int) = (l1.length : Int)
 ·rw [if_pos c3] at H
  have c3b0 : ((l0.length : Int) == (l1.length : Int)) = true := beq_iff_eq.mpr c3
  have c3b1 : ((l0.length : Int) != (l1.length : Int)) = false := bne_eq_false_iff_eq.mpr c3
  have c3b2 : (l0.length == l1.length) = true := by first | simpa using c3 | (simp at c3 ⊢; omega)
  clear c3
  have H' := Aside0.mk H
  clear H
  go_enter Try.func35, Try.ntmps35
  go_wp2
  repeat (go_quiet (fail); try go_wp2)
  go_loopg [5] k (fun kq v5 w' => ∃ (x5_1 : Int), v5 = .int .i64 x5_1 ∧ Aside0 (topiaryref01_Same.l0 kq l0 l1 x5_1 = some r) ∧ Aside0 (kq ≤ k) ∧ Drawn0 w w')
  case atStart => exact ⟨(0), (by first | rfl | (simp; done) | (simp [*]; done)), H', ⟨Nat.le_refl _⟩, by repeat (first | exact Drawn0.refl _ | apply Drawn0.step)⟩
  case round =>
   clear H'
   (try clear c1); (try clear p2); (try clear c3); (try clear c3b0); (try clear c3b1); (try clear c3b2)
   obtain ⟨x5_1, rfl, HA, HK1, ⟨m1, rfl⟩⟩ := hrel
   cases gk with
   | zero => exact absurd HA.out (by simp [topiaryref01_Same.l0])
   | succ k1 =>
    have H := HA.out
    clear HA
    simp only [topiaryref01_Same.l0] at H
    by_cases c4 : x5_1 < (l0.length : Int)
    ·rw [if_pos c4] at H
     have c4b0 : decide (x5_1 < (l0.length : Int)) = true := decide_eq_true c4
     clear c4
     by_cases c5 : 0 ≤ x5_1
     ·rw [if_pos c5] at H
      have c5b0 : decide (0 ≤ x5_1) = true := decide_eq_true c5
      clear c5
      by_cases c6 : x5_1 < (l1.length : Int)
      ·rw [if_pos c6] at H
       have c6b0 : decide (x5_1 < (l1.length : Int)) = true := decide_eq_true c6
       clear c6
       by_cases c7 : (!(((rd_T23 l0 x5_1).f0) == ((rd_T23 l1 x5_1).f0)) || (!(((rd_T23 l0 x5_1).f1) == ((rd_T23 l1 x5_1).f1)))) = true
       ·rw [if_pos c7] at H
        have c7b0 : (!(((rd_T23 l0 x5_1).f0) == ((rd_T23 l1 x5_1).f0)) || (!(((rd_T23 l0 x5_1).f1) == ((rd_T23 l1 x5_1).f1)))) = true := c7
        clear c7
        obtain rfl := Option.some.inj H
        have p264 : 0 ≤ (x5_1 : Int) := of_decide_eq_true asmS
        have q264 : x5_1 < (l0.length : Int) := of_decide_eq_true asmS
        obtain ⟨ad264, e264, hx264_0, hx264_1⟩ := at_T23 HR0.out x5_1 p264 q264
        cases e264
        replace p264 := eq_true p264
        replace q264 := eq_true q264
        have p265 : 0 ≤ (x5_1 : Int) := of_decide_eq_true asmS
        have q265 : x5_1 < (l1.length : Int) := of_decide_eq_true asmS
        obtain ⟨ad265, e265, hx265_0, hx265_1⟩ := at_T23 HR1.out x5_1 p265 q265
        cases e265
        replace p265 := eq_true p265
        replace q265 := eq_true q265
        go_wp2
        repeat (go_quiet (fail); try go_wp2)
        go_ret
        exact ⟨by first | rfl | (simp; done) | (simp [*]; done), by repeat (first | exact Drawn0.refl _ | apply Drawn0.step)⟩
       ·rw [if_neg c7] at H
        have c7b0 : (!(((rd_T23 l0 x5_1).f0) == ((rd_T23 l1 x5_1).f0)) || (!(((rd_T23 l0 x5_1).f1) == ((rd_T23 l1 x5_1).f1)))) = false := by simpa using c7
        clear c7
        have H' := Aside0.mk H
        clear H
        have p264 : 0 ≤ (x5_1 : Int) := of_decide_eq_true asmS
        have q264 : x5_1 < (l0.length : Int) := of_decide_eq_true asmS
        obtain ⟨ad264, e264, hx264_0, hx264_1⟩ := at_T23 HR0.out x5_1 p264 q264
        cases e264
        replace p264 := eq_true p264
        replace q264 := eq_true q264
        have p265 : 0 ≤ (x5_1 : Int) := of_decide_eq_true asmS
        have q265 : x5_1 < (l1.length : Int) := of_decide_eq_true asmS
        obtain ⟨ad265, e265, hx265_0, hx265_1⟩ := at_T23 HR1.out x5_1 p265 q265
        cases e265
        replace p265 := eq_true p265
        replace q265 := eq_true q265
        go_wp2
        repeat (go_quiet (fail); try go_wp2)
        go_roundg k1
        case measure => have := HK1.out; omega
        case rel => exact ⟨(wrap64 (x5_1 + 1)), (by first | rfl | (simp; done) | (simp [*]; done)), H', ⟨by have := HK1.out; omega⟩, by repeat (first | exact Drawn0.refl _ | apply Drawn0.step)⟩
      ·rw [if_neg c6] at H
       exact absurd H (by simp)
     ·rw [if_neg c5] at H
      exact absurd H (by simp)
    ·rw [if_neg c4] at H
     have c4b0 : decide (x5_1 < (l0.length : Int)) = false := decide_eq_false c4
     clear c4
     obtain rfl := Option.some.inj H
     go_wp2
     repeat (go_quiet (fail); try go_wp2)
     go_ret
     exact ⟨by first | rfl | (simp; done) | (simp [*]; done), by repeat (first | exact Drawn0.refl _ | apply Drawn0.step)⟩
 ·rw [if_neg c3] at H
  have c3b0 : ((l0.length : Int) == (l1.length : Int)) = false := beq_eq_false_iff_ne.mpr c3
  have c3b1 : ((l0.length : Int) != (l1.length : Int)) = true := bne_iff_ne.mpr c3
  have c3b2 : (l0.length == l1.length) = false := by first | simpa using c3 | (simp at c3 ⊢; omega)
  obtain rfl := Option.some.inj H
  go_enter Try.func35, Try.ntmps35
  go_wp2
  repeat (go_quiet (fail); try go_wp2)
  go_ret
  exact ⟨by first | rfl | (simp; done) | (simp [*]; done), by repeat (first | exact Drawn0.refl _ | apply Drawn0.step)⟩
end Go.Proofs.Ytnkbgimihikhoaa.PVt
namespace Go.Proofs.Ytnkbgimihikhoaa.PVt
open Go.RowKit Go.Proofs.YtnkbgimihikhoaaW.PrintWords Go.Proofs.YtnkbgimihikhoaaW.PrintLast Go.Proofs.YtnkbgimihikhoaaW.PrintMore
attribute [local go_sem] max2_int min2_int max_two min_two max_three min_three max_four min_four
set_option linter.unusedVariables false
set_option linter.unusedSimpArgs false
theorem eqA97 (d : Nat) (w : World) (x0 y0 : Int) (x1 y1 : Int) (x2 y2 : Int) (x3 y3 : Int) (x4 y4 : Int) (x5 y5 : Int) :
  (Op.equalIn (d + 3) 97 (.agg #[.int .i64 x0, .int .i64 x1, .int .i64 x2, .int .i64 x3, .int .i64 x4, .int .i64 x5]) (.agg #[.int .i64 y0, .int .i64 y1, .int .i64 y2, .int .i64 y3, .int .i64 y4, .int .i64 y5])).run Try.prog w = .ok ((x0 == y0 && (x1 == y1)) && ((x2 == y2 && (x3 == y3)) && ((x4 == y4 && (x5 == y5))))) w := by
 refine eqA_of Try.underlying97 (by kernel_rfl) ?_
 refine eqf_cons (by rfl) (by go_simp) (by go_simp) (eqA23 (d + 0) w _ _ _ _) ?_
 refine eqf_cons (by rfl) (by go_simp) (by go_simp) (eqA23 (d + 0) w _ _ _ _) ?_
 exact eqf_last (by rfl) (by go_simp) (by go_simp) (eqA23 (d + 0) w _ _ _ _)
end Go.Proofs.Ytnkbgimihikhoaa.PVt
namespace Go.Proofs.Ytnkbgimihikhoaa.PVt
open Go.RowKit Go.Proofs.YtnkbgimihikhoaaW.PrintWords Go.Proofs.YtnkbgimihikhoaaW.PrintLast Go.Proofs.YtnkbgimihikhoaaW.PrintMore
attribute [local go_sem] max2_int min2_int max_two min_two max_three min_three max_four min_four
set_option linter.unusedVariables false
set_option linter.unusedSimpArgs false
attribute [local go_sem high] eqA97
def topiaryref11_Same.l0 : Nat → List (S97) → List (S97) → Int → Option (Bool)
 | 0, _, _, _ => none
 | k + 1, x0, x1, x5 => if x5 < (x0.length : Int) then (if 0 ≤ x5 then (if x5 < (x1.length : Int) then (if ((!(((rd_T97 x0 x5).f0.f0) == ((rd_T97 x1 x5).f0.f0)) || (!(((rd_T97 x0 x5).f0.f1) == ((rd_T97 x1 x5).f0.f1)))) || ((!(((rd_T97 x0 x5).f1.f0) == ((rd_T97 x1 x5).f1.f0)) || (!(((rd_T97 x0 x5).f1.f1) == ((rd_T97 x1 x5).f1.f1)))) || ((!(((rd_T97 x0 x5).f2.f0) == ((rd_T97 x1 x5).f2.f0)) || (!(((rd_T97 x0 x5).f2.f1) == ((rd_T97 x1 x5).f2.f1))))))) = true then (some false) else (topiaryref11_Same.l0 k x0 x1 (wrap64 (x5 + 1)))) else (none)) else (none)) else (some true)
def topiaryref11_Same.f (k : Nat) (l0 : List (S97)) (l1 : List (S97)) : Option (Bool) := if (l0.length : Int) = (l1.length : Int) then (topiaryref11_Same.l0 k l0 l1 0) else (some false)
set_option maxHeartbeats 8000000 in
set_option maxRecDepth 100000 in
theorem topiaryref11_Same.calls (k : Nat) (A0 : Option Addr) (c0 : Nat) (l0 : List (S97)) (A1 : Option Addr) (c1 : Nat) (l1 : List (S97)) (r : Bool) (w : World) (hr0 : Kd.C k97 w A0 l0.length l0) (hc0 : l0.length ≤ c0) (hr1 : Kd.C k97 w A1 l1.length l1) (hc1 : l1.length ≤ c1) (h : topiaryref11_Same.f k l0 l1 = some r) :
  Calls Try.prog 52 #[.slice A0 l0.length c0, .slice A1 l1.length c1] w fun e w' => e = .returned (.bool r) ∧ Drawn0 w w' := by
 have hu97 := Try.underlying97
 have HR0 := Aside0.mk hr0
 have HC0 := Aside0.mk hc0
 clear hr0 hc0
 have HR1 := Aside0.mk hr1
 have HC1 := Aside0.mk hc1
 clear hr1 hc1
 have H : (if (l0.length : Int) = (l1.length : Int) then (topiaryref11_Same.l0 k l0 l1 0) else (some false)) = some r := h
 clear h
 by_cases c3 : (l0.length : Int) = (l1.length : Int)
 ·rw [if_pos c3] at H
  have c3b0 : ((l0.length : Int) == (l1.length : Int)) = true := beq_iff_eq.mpr c3
  have c3b1 : ((l0.length : Int) != (l1.length : Int)) = false := bne_eq_false_iff_eq.mpr c3
  have c3b2 : (l0.length == l1.length) = true := by first | simpa using c3 | (simp at c3 ⊢; omega)
  clear c3
  have H' := Aside0.mk H
  clear H
  go_enter Try.func52, Try.ntmps52
  go_wp2
  repeat (go_quiet (fail); try go_wp2)
  go_loopg [5] k (fun kq v5 w' => ∃ (x5_1 : Int), v5 = .int .i64 x5_1 ∧ Aside0 (topiaryref11_Same.l0 kq l0 l1 x5_1 = some r) ∧ Aside0 (kq ≤ k) ∧ Drawn0 w w')
  case atStart => exact ⟨(0), (by first | rfl | (simp; done) | (simp [*]; done)), H', ⟨Nat.le_refl _⟩, by repeat (first | exact Drawn0.refl _ | apply Drawn0.step)⟩
  case round =>
   clear H'
   (try clear c1); (try clear p2); (try clear c3); (try clear c3b0); (try clear c3b1); (try clear c3b2)
   obtain ⟨x5_1, rfl, HA, HK1, ⟨m1, rfl⟩⟩ := hrel
   cases gk with
   | zero => exact absurd HA.out (by simp [topiaryref11_Same.l0])
   | succ k1 =>
    have H := HA.out
    clear HA
    simp only [topiaryref11_Same.l0] at H
    by_cases c4 : x5_1 < (l0.length : Int)
    ·rw [if_pos c4] at H
     have c4b0 : decide (x5_1 < (l0.length : Int)) = true := decide_eq_true c4
     clear c4
     by_cases c5 : 0 ≤ x5_1
     ·rw [if_pos c5] at H
      have c5b0 : decide (0 ≤ x5_1) = true := decide_eq_true c5
      clear c5
      by_cases c6 : x5_1 < (l1.length : Int)
      ·rw [if_pos c6] at H
       have c6b0 : decide (x5_1 < (l1.length : Int)) = true := decide_eq_true c6
       clear c6
       by_cases c7 : ((!(((rd_T97 l0 x5_1).f0.f0) == ((rd_T97 l1 x5_1).f0.f0)) || (!(((rd_T97 l0 x5_1).f0.f1) == ((rd_T97 l1 x5_1).f0.f1)))) || ((!(((rd_T97 l0 x5_1).f1.f0) == ((rd_T97 l1 x5_1).f1.f0)) || (!(((rd_T97 l0 x5_1).f1.f1) == ((rd_T97 l1 x5_1).f1.f1)))) || ((!(((rd_T97 l0 x5_1).f2.f0) == ((rd_T97 l1 x5_1).f2.f0)) || (!(((rd_T97 l0 x5_1).f2.f1) == ((rd_T97 l1 x5_1).f2.f1))))))) = true
       ·rw [if_pos c7] at H
        have c7b0 : ((!(((rd_T97 l0 x5_1).f0.f0) == ((rd_T97 l1 x5_1).f0.f0)) || (!(((rd_T97 l0 x5_1).f0.f1) == ((rd_T97 l1 x5_1).f0.f1)))) || ((!(((rd_T97 l0 x5_1).f1.f0) == ((rd_T97 l1 x5_1).f1.f0)) || (!(((rd_T97 l0 x5_1).f1.f1) == ((rd_T97 l1 x5_1).f1.f1)))) || ((!(((rd_T97 l0 x5_1).f2.f0) == ((rd_T97 l1 x5_1).f2.f0)) || (!(((rd_T97 l0 x5_1).f2.f1) == ((rd_T97 l1 x5_1).f2.f1))))))) = true := c7
        clear c7
        obtain rfl := Option.some.inj H
        have p266 : 0 ≤ (x5_1 : Int) := of_decide_eq_true asmS
        have q266 : x5_1 < (l0.length : Int) := of_decide_eq_true asmS
        obtain ⟨ad266, e266, hx266_0, hx266_1, hx266_2, hx266_3, hx266_4, hx266_5⟩ := at_T97 HR0.out x5_1 p266 q266
        cases e266
        replace p266 := eq_true p266
        replace q266 := eq_true q266
        have p267 : 0 ≤ (x5_1 : Int) := of_decide_eq_true asmS
        have q267 : x5_1 < (l1.length : Int) := of_decide_eq_true asmS
        obtain ⟨ad267, e267, hx267_0, hx267_1, hx267_2, hx267_3, hx267_4, hx267_5⟩ := at_T97 HR1.out x5_1 p267 q267
        cases e267
        replace p267 := eq_true p267
        replace q267 := eq_true q267
        go_wp2
        repeat (go_quiet (fail); try go_wp2)
        go_ret
        exact ⟨by first | rfl | (simp; done) | (simp [*]; done), by repeat (first | exact Drawn0.refl _ | apply Drawn0.step)⟩
       ·rw [if_neg c7] at H
        have c7b0 : ((!(((rd_T97 l0 x5_1).f0.f0) == ((rd_T97 l1 x5_1).f0.f0)) || (!(((rd_T97 l0 x5_1).f0.f1) == ((rd_T97 l1 x5_1).f0.f1)))) || ((!(((rd_T97 l0 x5_1).f1.f0) == ((rd_T97 l1 x5_1).f1.f0)) || (!(((rd_T97 l0 x5_1).f1.f1) == ((rd_T97 l1 x5_1).f1.f1)))) || ((!(((rd_T97 l0 x5_1).f2.f0) == ((rd_T97 l1 x5_1).f2.f0)) || (!(((rd_T97 l0 x5_1).f2.f1) == ((rd_T97 l1 x5_1).f2.f1))))))) = false := by simpa using c7
        clear c7
        have H' := Aside0.mk H
        clear H
        have p266 : 0 ≤ (x5_1 : Int) := of_decide_eq_true asmS
        have q266 : x5_1 < (l0.length : Int) := of_decide_eq_true asmS
        obtain ⟨ad266, e266, hx266_0, hx266_1, hx266_2, hx266_3, hx266_4, hx266_5⟩ := at_T97 HR0.out x5_1 p266 q266
        cases e266
        replace p266 := eq_true p266
        replace q266 := eq_true q266
        have p267 : 0 ≤ (x5_1 : Int) := of_decide_eq_true asmS
        have q267 : x5_1 < (l1.length : Int) := of_decide_eq_true asmS
        obtain ⟨ad267, e267, hx267_0, hx267_1, hx267_2, hx267_3, hx267_4, hx267_5⟩ := at_T97 HR1.out x5_1 p267 q267
        cases e267
        replace p267 := eq_true p267
        replace q267 := eq_true q267
        go_wp2
        repeat (go_quiet (fail); try go_wp2)
        go_roundg k1
        case measure => have := HK1.out; omega
        case rel => exact ⟨(wrap64 (x5_1 + 1)), (by first | rfl | (simp; done) | (simp [*]; done)), H', ⟨by have := HK1.out; omega⟩, by repeat (first | exact Drawn0.refl _ | apply Drawn0.step)⟩
      ·rw [if_neg c6] at H
       exact absurd H (by simp)
     ·rw [if_neg c5] at H
      exact absurd H (by simp)
    ·rw [if_neg c4] at H
     have c4b0 : decide (x5_1 < (l0.length : Int)) = false := decide_eq_false c4
     clear c4
     obtain rfl := Option.some.inj H
     go_wp2
     repeat (go_quiet (fail); try go_wp2)
     go_ret
     exact ⟨by first | rfl | (simp; done) | (simp [*]; done), by repeat (first | exact Drawn0.refl _ | apply Drawn0.step)⟩
 ·rw [if_neg c3] at H
  have c3b0 : ((l0.length : Int) == (l1.length : Int)) = false := beq_eq_false_iff_ne.mpr c3
  have c3b1 : ((l0.length : Int) != (l1.length : Int)) = true := bne_iff_ne.mpr c3
  have c3b2 : (l0.length == l1.length) = false := by first | simpa using c3 | (simp at c3 ⊢; omega)
  obtain rfl := Option.some.inj H
  go_enter Try.func52, Try.ntmps52
  go_wp2
  repeat (go_quiet (fail); try go_wp2)
  go_ret
  exact ⟨by first | rfl | (simp; done) | (simp [*]; done), by repeat (first | exact Drawn0.refl _ | apply Drawn0.step)⟩
end Go.Proofs.Ytnkbgimihikhoaa.PVt
namespace Go.Proofs.Ytnkbgimihikhoaa.PVt
open Go.RowKit Go.Proofs.YtnkbgimihikhoaaW.PrintWords Go.Proofs.YtnkbgimihikhoaaW.PrintLast Go.Proofs.YtnkbgimihikhoaaW.PrintMore
attribute [local go_sem] max2_int min2_int max_two min_two max_three min_three max_four min_four
set_option linter.unusedVariables false
set_option linter.unusedSimpArgs false
theorem eqA111 (d : Nat) (w : World) (x0 y0 : Int) (x1 y1 : Int) (x2 y2 : ByteArray) (x3 y3 : Int) (x4 y4 : Int) (x5 y5 : ByteArray) (x6 y6 : Bool) :
  (Op.equalIn (d + 3) 111 (.agg #[.int .i64 x0, .int .i64 x1, .string x2, .int .i64 x3, .int .i64 x4, .string x5, .bool x6]) (.agg #[.int .i64 y0, .int .i64 y1, .string y2, .int .i64 y3, .int .i64 y4, .string y5, .bool y6])).run Try.prog w = .ok ((x0 == y0 && (x1 == y1)) && (x2.toList == y2.toList && ((x3 == y3 && (x4 == y4)) && (x5.toList == y5.toList && (x6 == y6))))) w := by
 refine eqA_of Try.underlying111 (by kernel_rfl) ?_
 refine eqf_cons (by rfl) (by go_simp) (by go_simp) (eqA23 (d + 0) w _ _ _ _) ?_
 refine eqf_cons (by rfl) (by go_simp; rfl) (by go_simp; rfl) (by go_simp) ?_
 refine eqf_cons (by rfl) (by go_simp) (by go_simp) (eqA23 (d + 0) w _ _ _ _) ?_
 refine eqf_cons (by rfl) (by go_simp; rfl) (by go_simp; rfl) (by go_simp) ?_
 exact eqf_last (by rfl) (by go_simp; rfl) (by go_simp; rfl) (by go_simp)
end Go.Proofs.Ytnkbgimihikhoaa.PVt
namespace Go.Proofs.Ytnkbgimihikhoaa.PVt
open Go.RowKit Go.Proofs.YtnkbgimihikhoaaW.PrintWords Go.Proofs.YtnkbgimihikhoaaW.PrintLast Go.Proofs.YtnkbgimihikhoaaW.PrintMore
attribute [local go_sem] max2_int min2_int max_two min_two max_three min_three max_four min_four
set_option linter.unusedVariables false
set_option linter.unusedSimpArgs false
attribute [local go_sem high] eqA111
def topiaryref13_Same.l0 : Nat → List (S111) → List (S111) → Int → Option (Bool)
 | 0, _, _, _ => none
 | k + 1, x0, x1, x5 => if x5 < (x0.length : Int) then (if 0 ≤ x5 then (if x5 < (x1.length : Int) then (if ((!(((rd_T111 x0 x5).f0.f0) == ((rd_T111 x1 x5).f0.f0)) || (!(((rd_T111 x0 x5).f0.f1) == ((rd_T111 x1 x5).f0.f1)))) || (!((((rd_T111 x0 x5).f1).toList) == (((rd_T111 x1 x5).f1).toList)) || ((!(((rd_T111 x0 x5).f2.f0) == ((rd_T111 x1 x5).f2.f0)) || (!(((rd_T111 x0 x5).f2.f1) == ((rd_T111 x1 x5).f2.f1)))) || (!((((rd_T111 x0 x5).f3).toList) == (((rd_T111 x1 x5).f3).toList)) || (!(((rd_T111 x0 x5).f4) == ((rd_T111 x1 x5).f4))))))) = true then (some false) else (topiaryref13_Same.l0 k x0 x1 (wrap64 (x5 + 1)))) else (none)) else (none)) else (some true)
def topiaryref13_Same.f (k : Nat) (l0 : List (S111)) (l1 : List (S111)) : Option (Bool) := if (l0.length : Int) = (l1.length : Int) then (topiaryref13_Same.l0 k l0 l1 0) else (some false)
set_option maxHeartbeats 8000000 in
set_option maxRecDepth 100000 in
theorem topiaryref13_Same.calls (k : Nat) (A0 : Option Addr) (c0 : Nat) (l0 : List (S111)) (A1 : Option Addr) (c1 : Nat) (l1 : List (S111)) (r : Bool) (w : World) (hr0 : Kd.C k111 w A0 l0.length l0) (hc0 : l0.length ≤ c0) (hr1 : Kd.C k111 w A1 l1.length l1) (hc1 : l1.length ≤ c1) (h : topiaryref13_Same.f k l0 l1 = some r) :
  Calls Try.prog 53 #[.slice A0 l0.length c0, .slice A1 l1.length c1] w fun e w' => e = .returned (.bool r) ∧ Drawn0 w w' := by
 have hu111 := Try.underlying111
 have HR0 := Aside0.mk hr0
 have HC0 := Aside0.mk hc0
 clear hr0 hc0
 have HR1 := Aside0.mk hr1
 have HC1 := Aside0.mk hc1
 clear hr1 hc1
 have H : (if (l0.length : Int) = (l1.length : Int) then (topiaryref13_Same.l0 k l0 l1 0) else (some false)) = some r := h
 clear h
 by_cases c3 : (l0.length : Int) = (l1.length : Int)
 ·rw [if_pos c3] at H
  have c3b0 : ((l0.length : Int) == (l1.length : Int)) = true := beq_iff_eq.mpr c3
  have c3b1 : ((l0.length : Int) != (l1.length : Int)) = false := bne_eq_false_iff_eq.mpr c3
  have c3b2 : (l0.length == l1.length) = true := by first | simpa using c3 | (simp at c3 ⊢; omega)
  clear c3
  have H' := Aside0.mk H
  clear H
  go_enter Try.func53, Try.ntmps53
  go_wp2
  repeat (go_quiet (fail); try go_wp2)
  go_loopg [5] k (fun kq v5 w' => ∃ (x5_1 : Int), v5 = .int .i64 x5_1 ∧ Aside0 (topiaryref13_Same.l0 kq l0 l1 x5_1 = some r) ∧ Aside0 (kq ≤ k) ∧ Drawn0 w w')
  case atStart => exact ⟨(0), (by first | rfl | (simp; done) | (simp [*]; done)), H', ⟨Nat.le_refl _⟩, by repeat (first | exact Drawn0.refl _ | apply Drawn0.step)⟩
  case round =>
   clear H'
   (try clear c1); (try clear p2); (try clear c3); (try clear c3b0); (try clear c3b1); (try clear c3b2)
   obtain ⟨x5_1, rfl, HA, HK1, ⟨m1, rfl⟩⟩ := hrel
   cases gk with
   | zero => exact absurd HA.out (by simp [topiaryref13_Same.l0])
   | succ k1 =>
    have H := HA.out
    clear HA
    simp only [topiaryref13_Same.l0] at H
    by_cases c4 : x5_1 < (l0.length : Int)
    ·rw [if_pos c4] at H
     have c4b0 : decide (x5_1 < (l0.length : Int)) = true := decide_eq_true c4
     clear c4
     by_cases c5 : 0 ≤ x5_1
     ·rw [if_pos c5] at H
      have c5b0 : decide (0 ≤ x5_1) = true := decide_eq_true c5
      clear c5
      by_cases c6 : x5_1 < (l1.length : Int)
      ·rw [if_pos c6] at H
       have c6b0 : decide (x5_1 < (l1.length : Int)) = true := decide_eq_true c6
       clear c6
       by_cases c7 : ((!(((rd_T111 l0 x5_1).f0.f0) == ((rd_T111 l1 x5_1).f0.f0)) || (!(((rd_T111 l0 x5_1).f0.f1) == ((rd_T111 l1 x5_1).f0.f1)))) || (!((((rd_T111 l0 x5_1).f1).toList) == (((rd_T111 l1 x5_1).f1).toList)) || ((!(((rd_T111 l0 x5_1).f2.f0) == ((rd_T111 l1 x5_1).f2.f0)) || (!(((rd_T111 l0 x5_1).f2.f1) == ((rd_T111 l1 x5_1).f2.f1)))) || (!((((rd_T111 l0 x5_1).f3).toList) == (((rd_T111 l1 x5_1).f3).toList)) || (!(((rd_T111 l0 x5_1).f4) == ((rd_T111 l1 x5_1).f4))))))) = true
       ·rw [if_pos c7] at H
        have c7b0 : ((!(((rd_T111 l0 x5_1).f0.f0) == ((rd_T111 l1 x5_1).f0.f0)) || (!(((rd_T111 l0 x5_1).f0.f1) == ((rd_T111 l1 x5_1).f0.f1)))) || (!((((rd_T111 l0 x5_1).f1).toList) == (((rd_T111 l1 x5_1).f1).toList)) || ((!(((rd_T111 l0 x5_1).f2.f0) == ((rd_T111 l1 x5_1).f2.f0)) || (!(((rd_T111 l0 x5_1).f2.f1) == ((rd_T111 l1 x5_1).f2.f1)))) || (!((((rd_T111 l0 x5_1).f3).toList) == (((rd_T111 l1 x5_1).f3).toList)) || (!(((rd_T111 l0 x5_1).f4) == ((rd_T111 l1 x5_1).f4))))))) = true := c7
        clear c7
        obtain rfl := Option.some.inj H
        have p268 : 0 ≤ (x5_1 : Int) := of_decide_eq_true asmS
        have q268 : x5_1 < (l0.length : Int) := of_decide_eq_true asmS
        obtain ⟨ad268, e268, hx268_0, hx268_1, hx268_2, hx268_3, hx268_4, hx268_5, hx268_6⟩ := at_T111 HR0.out x5_1 p268 q268
        cases e268
        replace p268 := eq_true p268
        replace q268 := eq_true q268
        have p269 : 0 ≤ (x5_1 : Int) := of_decide_eq_true asmS
        have q269 : x5_1 < (l1.length : Int) := of_decide_eq_true asmS
        obtain ⟨ad269, e269, hx269_0, hx269_1, hx269_2, hx269_3, hx269_4, hx269_5, hx269_6⟩ := at_T111 HR1.out x5_1 p269 q269
        cases e269
        replace p269 := eq_true p269
        replace q269 := eq_true q269
        go_wp2
        repeat (go_quiet (fail); try go_wp2)
        go_ret
        exact ⟨by first | rfl | (simp; done) | (simp [*]; done), by repeat (first | exact Drawn0.refl _ | apply Drawn0.step)⟩
       ·rw [if_neg c7] at H
        have c7b0 : ((!(((rd_T111 l0 x5_1).f0.f0) == ((rd_T111 l1 x5_1).f0.f0)) || (!(((rd_T111 l0 x5_1).f0.f1) == ((rd_T111 l1 x5_1).f0.f1)))) || (!((((rd_T111 l0 x5_1).f1).toList) == (((rd_T111 l1 x5_1).f1).toList)) || ((!(((rd_T111 l0 x5_1).f2.f0) == ((rd_T111 l1 x5_1).f2.f0)) || (!(((rd_T111 l0 x5_1).f2.f1) == ((rd_T111 l1 x5_1).f2.f1)))) || (!((((rd_T111 l0 x5_1).f3).toList) == (((rd_T111 l1 x5_1).f3).toList)) || (!(((rd_T111 l0 x5_1).f4) == ((rd_T111 l1 x5_1).f4))))))) = false := by simpa using c7
        clear c7
        have H' := Aside0.mk H
        clear H
        have p268 : 0 ≤ (x5_1 : Int) := of_decide_eq_true asmS
        have q268 : x5_1 < (l0.length : Int) := of_decide_eq_true asmS
        obtain ⟨ad268, e268, hx268_0, hx268_1, hx268_2, hx268_3, hx268_4, hx268_5, hx268_6⟩ := at_T111 HR0.out x5_1 p268 q268
        cases e268
        replace p268 := eq_true p268
        replace q268 := eq_true q268
        have p269 : 0 ≤ (x5_1 : Int) := of_decide_eq_true asmS
        have q269 : x5_1 < (l1.length : Int) := of_decide_eq_true asmS
        obtain ⟨ad269, e269, hx269_0, hx269_1, hx269_2, hx269_3, hx269_4, hx269_5, hx269_6⟩ := at_T111 HR1.out x5_1 p269 q269
        cases e269
        replace p269 := eq_true p269
        replace q269 := eq_true q269
        go_wp2
        repeat (go_quiet (fail); try go_wp2)
        go_roundg k1
        case measure => have := HK1.out; omega
        case rel => exact ⟨(wrap64 (x5_1 + 1)), (by first | rfl | (simp; done) | (simp [*]; done)), H', ⟨by have := HK1.out; omega⟩, by repeat (first | exact Drawn0.refl _ | apply Drawn0.step)⟩
      ·rw [if_neg c6] at H
       exact absurd H (by simp)
     ·rw [if_neg c5] at H
      exact absurd H (by simp)
    ·rw [if_neg c4] at H
     have c4b0 : decide (x5_1 < (l0.length : Int)) = false := decide_eq_false c4
     clear c4
     obtain rfl := Option.some.inj H
     go_wp2
     repeat (go_quiet (fail); try go_wp2)
     go_ret
     exact ⟨by first | rfl | (simp; done) | (simp [*]; done), by repeat (first | exact Drawn0.refl _ | apply Drawn0.step)⟩
 ·rw [if_neg c3] at H
  have c3b0 : ((l0.length : Int) == (l1.length : Int)) = false := beq_eq_false_iff_ne.mpr c3
  have c3b1 : ((l0.length : Int) != (l1.length : Int)) = true := bne_iff_ne.mpr c3
  have c3b2 : (l0.length == l1.length) = false := by first | simpa using c3 | (simp at c3 ⊢; omega)
  obtain rfl := Option.some.inj H
  go_enter Try.func53, Try.ntmps53
  go_wp2
  repeat (go_quiet (fail); try go_wp2)
  go_ret
  exact ⟨by first | rfl | (simp; done) | (simp [*]; done), by repeat (first | exact Drawn0.refl _ | apply Drawn0.step)⟩
end Go.Proofs.Ytnkbgimihikhoaa.PVt
