/- What the statement's row needs of this session's texts, joined by program: part 4. -/
import Derived.Test.YtnkbgimihikhoaaQU2
namespace Go.Proofs.Ytnkbgimihikhoaa.PVt
open Go.RowKit Go.Proofs.YtnkbgimihikhoaaW.PrintWords Go.Proofs.YtnkbgimihikhoaaW.PrintLast Go.Proofs.YtnkbgimihikhoaaW.PrintMore
attribute [local go_sem] max2_int min2_int max_two min_two max_three min_three max_four min_four
set_option linter.unusedVariables false
set_option linter.unusedSimpArgs false
mutual
def topiaryref15_below.l0 : Nat → List (S23) → List (S23) → Int → List (S52) → List (S97) → List (S74) → List (S111) → Int → Int → ByteArray → ByteArray → List (S99) → List (S27) → Option (Int × Int × ByteArray × ByteArray × (List (S99)) × (List (S27)) × (List (S23)))
 | 0, _, _, _, _, _, _, _, _, _, _, _, _, _ => none
 | k + 1, x3, x11, x12, x209000, x209001, x209002, x209003, x216000, x216001, x216002, x216003, x216004, x216005 => if x12 < (x11.length : Int) then (if 0 ≤ x12 then ((topiaryref14_Tag.f k x209000 x209001 x209002 x209003 ((rd_T23 x11 x12).f0) ((rd_T23 x11 x12).f1)).bind fun bt223 => (if bt223.2 = true then ((topiaryref01_Has.f k x3 ((rd_T23 x11 x12).f0) ((rd_T23 x11 x12).f1)).bind fun t226 => (if t226 = true then (topiaryref15_below.l0 k x3 x11 (wrap64 (x12 + 1)) x209000 x209001 x209002 x209003 x216000 x216001 x216002 x216003 x216004 x216005) else (if (x3.length : Int) > 8192 then (topiaryref15_below.l0 k x3 x11 (wrap64 (x12 + 1)) x209000 x209001 x209002 x209003 x216000 x216001 x216002 x216003 x216004 x216005) else ((topiaryref15_below.f k x209000 x209001 x209002 x209003 ((rd_T23 x11 x12).f0) ((rd_T23 x11 x12).f1) bt223.1 x3).bind fun bt228 => (if x216005.length < 1466015503701 then (topiaryref15_below.l0 k bt228.2.2.2.2.2.2 x11 (wrap64 (x12 + 1)) x209000 x209001 x209002 x209003 x216000 x216001 x216002 x216003 x216004 (x216005 ++ [(⟨(⟨bt228.1, bt228.2.1⟩ : S23), bt228.2.2.1, bt228.2.2.2.1, bt228.2.2.2.2.1, bt228.2.2.2.2.2.1⟩ : S27)])) else (none)))))) else (topiaryref15_below.l0 k x3 x11 (wrap64 (x12 + 1)) x209000 x209001 x209002 x209003 x216000 x216001 x216002 x216003 x216004 x216005))) else (none)) else (some (x216000, x216001, x216002, x216003, x216004, x216005, x3))
def topiaryref15_below.f : Nat → List (S52) → List (S97) → List (S74) → List (S111) → Int → Int → ByteArray → List (S23) → Option (Int × Int × ByteArray × ByteArray × (List (S99)) × (List (S27)) × (List (S23)))
 | 0, _, _, _, _, _, _, _, _ => none
 | k + 1, l0_0, l0_1, l0_2, l0_3, a1_0, a1_1, a2, l3 => (topiaryref15_text.f k l0_0 l0_1 l0_2 l0_3 a1_0 a1_1).bind fun t211 => ((topiaryref13_Attrs.f k l0_3 a1_0 a1_1).bind fun t212 => (if l3.length < 8796093022208 then ((topiaryref14_Kids.f k l0_0 l0_1 l0_2 l0_3 a1_0 a1_1).bind fun t219 => (topiaryref15_below.l0 k (l3 ++ [(⟨a1_0, a1_1⟩ : S23)]) t219 0 l0_0 l0_1 l0_2 l0_3 a1_0 a1_1 a2 t211 t212 ([] : List (S27)))) else (none)))
end
def topiaryref15_below.T1 : Bool × List (List Nat × List Nat) := (true, [([], []), ([], []), ([], []), ([], []), ([2, 3], [2, 3]), ([], []), ([5], [5]), ([], []), ([6, 7, 4], [6, 7]), ([0, 1, 4, 8], [0, 1, 4, 8]), ([], []), ([10, 9, 8, 0, 1, 2, 3, 4, 5, 6, 7, 8, 9, 10], [9, 10])])
def topiaryref15_below.B1 : List Nat := [0, 0, 0, 0, 12, 0, 32, 0, 252, 511, 0, 2047]
theorem topiaryref15_below.tab1 : rtab .any (opsOf Try.f51 1) = topiaryref15_below.T1 := by kernel_rfl
theorem topiaryref15_below.bits1 : waitsOk topiaryref15_below.T1.2 topiaryref15_below.B1 = true := by kernel_rfl
def topiaryref15_below.T7 : Bool × List (List Nat × List Nat) := (true, [([], []), ([], []), ([], []), ([1, 2], [1, 2]), ([3], [3]), ([0, 4], [0, 4]), ([5], [5]), ([6], [6]), ([6], [6]), ([7, 5, 0, 1, 2, 3, 4, 5, 6, 7], [7]), ([8, 9, 0, 1, 2, 3, 4, 5, 6, 7, 8, 9], [8])])
def topiaryref15_below.B7 : List Nat := [0, 0, 0, 6, 14, 31, 63, 127, 127, 255, 1023]
theorem topiaryref15_below.tab7 : rtab .any (opsOf Try.f51 7) = topiaryref15_below.T7 := by kernel_rfl
theorem topiaryref15_below.bits7 : waitsOk topiaryref15_below.T7.2 topiaryref15_below.B7 = true := by kernel_rfl
def topiaryref15_below.T9 : Bool × List (List Nat × List Nat) := (true, [([], []), ([], []), ([], []), ([1, 2], [1, 2]), ([3], [3]), ([], []), ([], []), ([0, 4, 5, 6], [0, 4, 5, 6]), ([7], [7]), ([8], [8]), ([8], [8]), ([], []), ([11, 9, 7, 0, 1, 2, 3, 4, 5, 6, 7, 8, 9, 11], [9, 11]), ([10, 12, 0, 1, 2, 3, 4, 5, 6, 7, 8, 9, 10, 11, 12], [10])])
def topiaryref15_below.B9 : List Nat := [0, 0, 0, 6, 14, 0, 0, 127, 255, 511, 511, 0, 3071, 8191]
theorem topiaryref15_below.tab9 : rtab .any (opsOf Try.f51 9) = topiaryref15_below.T9 := by kernel_rfl
theorem topiaryref15_below.bits9 : waitsOk topiaryref15_below.T9.2 topiaryref15_below.B9 = true := by kernel_rfl
set_option maxHeartbeats 8000000 in
set_option maxRecDepth 100000 in
theorem topiaryref15_below.calls (k : Nat) : ∀ (A0_0 : Option Addr) (c0_0 : Nat) (l0_0 : List (S52)) (A0_1 : Option Addr) (c0_1 : Nat) (l0_1 : List (S97)) (A0_2 : Option Addr) (c0_2 : Nat) (l0_2 : List (S74)) (A0_3 : Option Addr) (c0_3 : Nat) (l0_3 : List (S111)) (a1_0 : Int) (a1_1 : Int) (a2 : ByteArray) (P3_ : Nat → Prop) (u9000_ : Value) (l3 : List (S23)) (r1 : Int) (r2 : Int) (r3 : ByteArray) (r4 : ByteArray) (r5 : List (S99)) (r6 : List (S27)) (r7 : List (S23)) (w0 w : World) (hB : Below w0.heap.size w0 w) (hr0_0 : ∀ W_, Kept w W_ (fun k_ => P3_ k_) → Kd.C k52 W_ A0_0 l0_0.length l0_0) (hc0_0 : l0_0.length ≤ c0_0) (hr0_1 : ∀ W_, Kept w W_ (fun k_ => P3_ k_) → Kd.C k97 W_ A0_1 l0_1.length l0_1) (hc0_1 : l0_1.length ≤ c0_1) (hr0_2 : ∀ W_, Kept w W_ (fun k_ => P3_ k_) → Kd.C k74 W_ A0_2 l0_2.length l0_2) (hc0_2 : l0_2.length ≤ c0_2) (hr0_3 : ∀ W_, Kept w W_ (fun k_ => P3_ k_) → Kd.C k111 W_ A0_3 l0_3.length l0_3) (hc0_3 : l0_3.length ≤ c0_3) (ho3 : Kd.R k23 23 w w0.heap.size P3_ u9000_ l3) (h : topiaryref15_below.f k l0_0 l0_1 l0_2 l0_3 a1_0 a1_1 a2 l3 = some (r1, r2, r3, r4, r5, r6, r7)),
  Calls Try.prog 51 #[.agg #[.slice A0_0 l0_0.length c0_0, .slice A0_1 l0_1.length c0_1, .slice A0_2 l0_2.length c0_2, .slice A0_3 l0_3.length c0_3], .agg #[.int .i64 a1_0, .int .i64 a1_1], .string a2, u9000_] w fun e w' => ∃ v4_ v5_ v6_ : Value, e = .returned (.tuple #[.agg #[.int .i64 r1, .int .i64 r2, .string r3, .string r4, v4_, v5_], v6_]) ∧ Kd.R k99 99 w' w0.heap.size (fun k_ => (P3_ k_ ∨ w.heap.size ≤ k_)) v4_ r5 ∧ Kd.N k27 27 w' w.heap.size (fun k_ => (P3_ k_ ∨ w.heap.size ≤ k_) ∧ some k_ ≠ (v4_ : Value).ownBlock ∧ some k_ ≠ (v6_ : Value).ownBlock) v5_ r6 ∧ Kd.R k23 23 w' w0.heap.size (fun k_ => (P3_ k_ ∨ w.heap.size ≤ k_)) v6_ r7 ∧ Below w0.heap.size w0 w' ∧ Kept w w' (fun k_ => P3_ k_) := by
 induction k using Nat.strongRecOn with
 | _ k ih =>
 intro A0_0 c0_0 l0_0 A0_1 c0_1 l0_1 A0_2 c0_2 l0_2 A0_3 c0_3 l0_3 a1_0 a1_1 a2 P3_ u9000_ l3 r1 r2 r3 r4 r5 r6 r7 w0 w hB hr0_0 hc0_0 hr0_1 hc0_1 hr0_2 hc0_2 hr0_3 hc0_3 ho3 h
 cases k with
 | zero => exact absurd h (by simp [topiaryref15_below.f])
 | succ k =>
 simp only [topiaryref15_below.f] at h
 have hu39 := Try.underlying39
 have hu23 := Try.underlying23
 have hu27 := Try.underlying27
 have HR0_0 := Aside0.mk hr0_0
 have HC0_0 := Aside0.mk hc0_0
 clear hr0_0 hc0_0
 have HR0_1 := Aside0.mk hr0_1
 have HC0_1 := Aside0.mk hc0_1
 clear hr0_1 hc0_1
 have HR0_2 := Aside0.mk hr0_2
 have HC0_2 := Aside0.mk hc0_2
 clear hr0_2 hc0_2
 have HR0_3 := Aside0.mk hr0_3
 have HC0_3 := Aside0.mk hc0_3
 clear hr0_3 hc0_3
 have HO3 := Aside0.mk (show Kd.R k23 23 w w0.heap.size (fun k_ => (P3_ k_ ∨ w.heap.size ≤ k_)) u9000_ l3 from Kd.R_mono ho3 (fun k_ hk => (.inl hk)))
 have HK := Aside0.mk (Kept.refl w (fun k_ => P3_ k_))
 have HW0 := Aside0.mk hB.size
 have HB := Aside0.mk hB
 clear hB
 have H : ((topiaryref15_text.f k l0_0 l0_1 l0_2 l0_3 a1_0 a1_1).bind fun t211 => ((topiaryref13_Attrs.f k l0_3 a1_0 a1_1).bind fun t212 => (if l3.length < 8796093022208 then ((topiaryref14_Kids.f k l0_0 l0_1 l0_2 l0_3 a1_0 a1_1).bind fun t219 => (topiaryref15_below.l0 k (l3 ++ [(⟨a1_0, a1_1⟩ : S23)]) t219 0 l0_0 l0_1 l0_2 l0_3 a1_0 a1_1 a2 t211 t212 ([] : List (S27)))) else (none)))) = some (r1, r2, r3, r4, r5, r6, r7) := h
 clear h
 replace H := Option.bind_eq_some_iff.mp H
 obtain ⟨t211, A50, H⟩ := H
 replace H : ((topiaryref13_Attrs.f k l0_3 a1_0 a1_1).bind fun t212 => (if l3.length < 8796093022208 then ((topiaryref14_Kids.f k l0_0 l0_1 l0_2 l0_3 a1_0 a1_1).bind fun t219 => (topiaryref15_below.l0 k (l3 ++ [(⟨a1_0, a1_1⟩ : S23)]) t219 0 l0_0 l0_1 l0_2 l0_3 a1_0 a1_1 a2 t211 t212 ([] : List (S27)))) else (none))) = some (r1, r2, r3, r4, r5, r6, r7) := H
 have A5 := Aside0.mk A50
 clear A50
 replace H := Option.bind_eq_some_iff.mp H
 obtain ⟨t212, A60, H⟩ := H
 replace H : (if l3.length < 8796093022208 then ((topiaryref14_Kids.f k l0_0 l0_1 l0_2 l0_3 a1_0 a1_1).bind fun t219 => (topiaryref15_below.l0 k (l3 ++ [(⟨a1_0, a1_1⟩ : S23)]) t219 0 l0_0 l0_1 l0_2 l0_3 a1_0 a1_1 a2 t211 t212 ([] : List (S27)))) else (none)) = some (r1, r2, r3, r4, r5, r6, r7) := H
 have A6 := Aside0.mk A60
 clear A60
 by_cases c7 : l3.length < 8796093022208
 ·rw [if_pos c7] at H
  have LMc7 := Aside0.mk c7
  clear c7
  obtain ⟨y216, hy216⟩ : ∃ y_ : List (S23), y_ = (l3 ++ [(⟨a1_0, a1_1⟩ : S23)]) := ⟨_, rfl⟩
  replace H : ((topiaryref14_Kids.f k l0_0 l0_1 l0_2 l0_3 a1_0 a1_1).bind fun t219 => (topiaryref15_below.l0 k y216 t219 0 l0_0 l0_1 l0_2 l0_3 a1_0 a1_1 a2 t211 t212 ([] : List (S27)))) = some (r1, r2, r3, r4, r5, r6, r7) := by first | (rw [hy216]; with_reducible exact H) | (have H2_ := (Option.bind_some _ _).symm.trans H; rw [hy216]; with_reducible exact H2_) | (have H2_ := (Option.bind_some _ _).symm.trans H; with_reducible exact H2_) | with_reducible exact H | (rw [hy216]; exact H) | exact H
  have Ny216 := Aside0.mk hy216
  clear hy216
  replace H := Option.bind_eq_some_iff.mp H
  obtain ⟨t219, A80, H⟩ := H
  replace H : (topiaryref15_below.l0 k y216 t219 0 l0_0 l0_1 l0_2 l0_3 a1_0 a1_1 a2 t211 t212 ([] : List (S27))) = some (r1, r2, r3, r4, r5, r6, r7) := H
  have A8 := Aside0.mk A80
  clear A80
  have H' := Aside0.mk H
  clear H
  go_enter Try.func51, Try.ntmps51
  try go_wp2_with (first | ((with_reducible refine gate_dst (N := 4) rfl ?_); (try (refine gate_guard (by rfl) ?_; dsimp only)); refine boxE (N := 4) (cs := #[.slice A0_0 l0_0.length c0_0, .slice A0_1 l0_1.length c0_1, .slice A0_2 l0_2.length c0_2, .slice A0_3 l0_3.length c0_3]) (t := 39) ?_; intro gb208 hg w9 hbox hb; have BK208 := Aside0.mk (hbox); have GW208 := Aside0.mk ((by rw [hg]; exact (kL0 HK) : w.heap.size ≤ gb208)); have GE208 := Aside0.mk ((by rw [hg]; exact (below_size (bS HB)) : w0.heap.size ≤ gb208)); replace HO3 := Aside0.mk (Kd.R_below (RS HO3) hb); replace HK := Aside0.mk (Kept.below (S := (fun k_ => P3_ k_)) (kS0 HK) hb); replace HB := Aside0.mk (below_step (bS HB) hb); clear hb hbox hg) | ((with_reducible refine gate_dst (N := 5) rfl ?_); (try (refine gate_guard (by rfl) ?_; dsimp only)); refine boxE (N := 5) (cs := #[.int .i64 a1_0, .int .i64 a1_1]) (t := 23) ?_; intro gb209 hg w10 hbox hb; have BK209 := Aside0.mk (hbox); have GW209 := Aside0.mk ((by rw [hg]; exact (kL1 HK GW208) : w.heap.size ≤ gb209)); have GE209 := Aside0.mk ((by rw [hg]; exact (below_size (bS1 HB GE208)) : w0.heap.size ≤ gb209)); have NB208_209 := nLt BK208 hg; have NB209_208 := nGt BK208 hg; replace HO3 := Aside0.mk (Kd.R_below (Kd.R_elderB (RS HO3) gb209 (Nat.le_of_eq hg.symm)) hb); replace BK208 := bB BK208 hb; replace HK := Aside0.mk (Kept.below (S := (fun k_ => P3_ k_)) (kS1 HK GW208) hb); replace HB := Aside0.mk (below_step (bS1 HB GE208) hb); clear hb hbox hg) | ((with_reducible refine gate_dst (N := 8) rfl ?_); (try (refine gate_guard (by rfl) ?_; dsimp only)); refine boxE (N := 8) (cs := #[.int .i64 0, .int .i64 0, .string (⟨#[]⟩ : ByteArray), .string (⟨#[]⟩ : ByteArray), .slice none 0 0, .slice none 0 0]) (t := 27) ?_; intro gb210 hg w11 hbox hb; have BK210 := Aside0.mk (hbox); have GW210 := Aside0.mk ((by rw [hg]; exact (kL2 HK GW208 GW209) : w.heap.size ≤ gb210)); have GE210 := Aside0.mk ((by rw [hg]; exact (below_size (bS2 HB GE208 GE209)) : w0.heap.size ≤ gb210)); have NB208_210 := nLt BK208 hg; have NB210_208 := nGt BK208 hg; have NB209_210 := nLt BK209 hg; have NB210_209 := nGt BK209 hg; replace HO3 := Aside0.mk (Kd.R_below (RS HO3) hb); replace BK208 := bB BK208 hb; replace BK209 := bB BK209 hb; replace HK := Aside0.mk (Kept.below (S := (fun k_ => P3_ k_)) (kS2 HK GW208 GW209) hb); replace HB := Aside0.mk (below_step (bS2 HB GE208 GE209) hb); clear hb hbox hg))
  replace HO3 := Aside0.mk (Kd.R_drew HO3.out)
  replace BK208 := Aside0.mk (blk_drew BK208.out)
  replace BK209 := Aside0.mk (blk_drew BK209.out)
  replace BK210 := Aside0.mk (blk_drew BK210.out)
  replace HK := Aside0.mk (Kept.drew HK.out)
  replace HB := Aside0.mk (below_drew1 HB.out)
  refine startS (n := 12) (S := fun w' => w'.cell? ⟨gb209, 0, none⟩ = some (.int .i64 a1_0) ∧ w'.cell? ⟨gb209, 1, none⟩ = some (.int .i64 a1_1) ∧ w'.cell? ⟨gb208, 0, none⟩ = some (.slice A0_0 l0_0.length c0_0) ∧ w'.cell? ⟨gb208, 1, none⟩ = some (.slice A0_1 l0_1.length c0_1) ∧ w'.cell? ⟨gb208, 2, none⟩ = some (.slice A0_2 l0_2.length c0_2) ∧ w'.cell? ⟨gb208, 3, none⟩ = some (.slice A0_3 l0_3.length c0_3)) (ds := []) ⟨(blk_cell BK209.out 0).trans rfl, (blk_cell BK209.out 1).trans rfl, (blk_cell BK208.out 0).trans rfl, (blk_cell BK208.out 1).trans rfl, (blk_cell BK208.out 2).trans rfl, (blk_cell BK208.out 3).trans rfl⟩ (fun hHeld => ?_); refine with_tabW topiaryref15_below.tab1 topiaryref15_below.bits1 (fun HT_ HW_ => ?_)
  generalize w11.drew = w12 at HO3 BK208 BK209 BK210 HK HB hHeld ⊢
  refine pureT (i := 1) (N := some 18) HT_ ?_
  refine pureT (i := 5) (N := some 22) HT_ ?_
  refine takeS (i := 0) (N := some 17) (v := ?_) HT_ HW_ hHeld ?_ ?_
  rotate_left
  ·rintro w' ⟨s0, s1, s2, s3, s4, s5⟩
   go_simp
   with_reducible rfl
  refine normS (N := some 17) ?_
  refine takeS (i := 2) (N := some 19) (v := ?_) HT_ HW_ hHeld ?_ ?_
  rotate_left
  ·rintro w' ⟨s0, s1, s2, s3, s4, s5⟩
   go_simp
   with_reducible rfl
  refine normS (N := some 19) ?_
  refine takeS (i := 3) (N := some 20) (v := ?_) HT_ HW_ hHeld ?_ ?_
  rotate_left
  ·rintro w' ⟨s0, s1, s2, s3, s4, s5⟩
   go_simp
   with_reducible rfl
  refine normS (N := some 20) ?_
  refine takeS (i := 6) (N := some 23) (v := ?_) HT_ HW_ hHeld ?_ ?_
  rotate_left
  ·rintro w' ⟨s0, s1, s2, s3, s4, s5⟩
   go_simp
   with_reducible rfl
  refine normS (N := some 23) ?_
  refine takeS (i := 7) (N := some 24) (v := ?_) HT_ HW_ hHeld ?_ ?_
  rotate_left
  ·rintro w' ⟨s0, s1, s2, s3, s4, s5⟩
   go_simp
   with_reducible rfl
  refine normS (N := some 24) ?_
  refine join_ (σ := Value × Nat) 1 #[true, true, true, true, true, true, true, true, true, true, true, false] (fun s_ => [(21, .string t211), (25, s_.1), (10, .pointer (some ⟨s_.2, 0, none⟩)), (26, .agg #[.int .i64 a1_0, .int .i64 a1_1, .string a2, .string t211, s_.1, .slice none 0 0])]) (fun s_ w' => (w'.cell? ⟨gb209, 0, none⟩ = some (.int .i64 a1_0) ∧ w'.cell? ⟨gb209, 1, none⟩ = some (.int .i64 a1_1) ∧ w'.cell? ⟨gb208, 0, none⟩ = some (.slice A0_0 l0_0.length c0_0) ∧ w'.cell? ⟨gb208, 1, none⟩ = some (.slice A0_1 l0_1.length c0_1) ∧ w'.cell? ⟨gb208, 2, none⟩ = some (.slice A0_2 l0_2.length c0_2) ∧ w'.cell? ⟨gb208, 3, none⟩ = some (.slice A0_3 l0_3.length c0_3)) ∧ (Kd.R k99 99 w' w0.heap.size (fun k_ => (P3_ k_ ∨ w.heap.size ≤ k_)) s_.1 t212) ∧ (Kd.R k23 23 w' w0.heap.size (fun k_ => (P3_ k_ ∨ w.heap.size ≤ k_) ∧ k_ ≠ gb209) u9000_ l3) ∧ (w'.heap[gb208]? = some (.cells #[.slice A0_0 l0_0.length c0_0, .slice A0_1 l0_1.length c0_1, .slice A0_2 l0_2.length c0_2, .slice A0_3 l0_3.length c0_3] 39 (0, 0))) ∧ (w'.heap[gb209]? = some (.cells #[.int .i64 a1_0, .int .i64 a1_1] 23 (0, 0))) ∧ (w'.heap[gb210]? = some (.cells #[.int .i64 0, .int .i64 0, .string (⟨#[]⟩ : ByteArray), .string (⟨#[]⟩ : ByteArray), .slice none 0 0, .slice none 0 0] 27 (0, 0))) ∧ (w'.heap[s_.2]? = some (.cells #[.int .i64 0, .int .i64 0, .string (⟨#[]⟩ : ByteArray), .string (⟨#[]⟩ : ByteArray), .slice none 0 0, .slice none 0 0] 27 (0, 0))) ∧ (w.heap.size ≤ s_.2) ∧ (w0.heap.size ≤ s_.2) ∧ (gb208 ≠ s_.2) ∧ (s_.2 ≠ gb208) ∧ (gb209 ≠ s_.2) ∧ (s_.2 ≠ gb209) ∧ (gb210 ≠ s_.2) ∧ (s_.2 ≠ gb210) ∧ (Kept w w' (fun k_ => P3_ k_)) ∧ (Below w0.heap.size w0 w')) ?_ ?_
  rotate_left
  ·intro hCont
   refine twoS (i := 4) (j := 10) (Ni := some 21) (Nj := some 10) HT_ (fun K hK => ?_) (fun K hK => ?_)
   ·skip
    refine goes_ Try.func71 (by kernel_rfl) rfl #[.agg #[.slice A0_0 l0_0.length c0_0, .slice A0_1 l0_1.length c0_1, .slice A0_2 l0_2.length c0_2, .slice A0_3 l0_3.length c0_3], .agg #[.int .i64 a1_0, .int .i64 a1_1]] (by rfl) rfl rfl argS ?_
    with_reducible refine (topiaryref15_text.calls k _ _ l0_0 _ _ l0_1 _ _ l0_2 _ _ l0_3 a1_0 a1_1 t211 _ ?side1 ?side2 ?side3 ?side4 ?side5 ?side6 ?side7 ?side8 A5.out).mono ?_
    (case side1 => exact Kd.C_kept_now HR0_0.out (kS3 HK GW208 GW209 GW210))
    (case side2 => exact HC0_0.out)
    (case side3 => exact Kd.C_kept_now HR0_1.out (kS3 HK GW208 GW209 GW210))
    (case side4 => exact HC0_1.out)
    (case side5 => exact Kd.C_kept_now HR0_2.out (kS3 HK GW208 GW209 GW210))
    (case side6 => exact HC0_2.out)
    (case side7 => exact Kd.C_kept_now HR0_3.out (kS3 HK GW208 GW209 GW210))
    (case side8 => exact HC0_3.out)
    rintro e w13 ⟨rfl, hb⟩
    refine ⟨_, rfl, ?_⟩
    replace HO3 := Aside0.mk (Kd.R_below (RS HO3) hb)
    replace BK208 := bB BK208 hb
    replace BK209 := bB BK209 hb
    replace BK210 := bB BK210 hb
    replace HK := Aside0.mk (Kept.below (S := (fun k_ => P3_ k_)) (kS3 HK GW208 GW209 GW210) hb)
    replace HB := Aside0.mk (below_step (bS3 HB GE208 GE209 GE210) hb)
    (try clear hb)
    refine hK.out _ _ ⟨(blk_cell BK209.out 0).trans rfl, (blk_cell BK209.out 1).trans rfl, (blk_cell BK208.out 0).trans rfl, (blk_cell BK208.out 1).trans rfl, (blk_cell BK208.out 2).trans rfl, (blk_cell BK208.out 3).trans rfl⟩ (fun hHeld => ?_)
    clear hK K
    refine normS (N := (some 21)) ?_
    refine twoS (i := 8) (j := 10) (Ni := some 25) (Nj := some 10) HT_ (fun K hK => ?_) (fun K hK => ?_)
    ·skip
     refine goes_ Try.func72 (by kernel_rfl) rfl #[.slice A0_3 l0_3.length c0_3, .agg #[.int .i64 a1_0, .int .i64 a1_1]] (by rfl) rfl rfl argS ?_
     with_reducible refine (topiaryref13_Attrs.calls k _ _ l0_3 a1_0 a1_1 t212 _ ?side1 ?side2 A6.out).mono ?_
     (case side1 => exact Kd.C_kept_now HR0_3.out (kS3 HK GW208 GW209 GW210))
     (case side2 => exact HC0_3.out)
     rintro e w14 ⟨v213, rfl, ho0, hb⟩
     refine ⟨_, rfl, ?_⟩
     have HO214 := Aside0.mk (Kd.R_lower (Kd.R_newM (M := fun k_ => (P3_ k_ ∨ w.heap.size ≤ k_)) ho0 (kL3 HK GW208 GW209 GW210) (fun k_ h_ => .inr h_)) (below_size (bS3 HB GE208 GE209 GE210)))
     replace HO3 := Aside0.mk (Kd.R_below (RS HO3) hb)
     replace BK208 := bB BK208 hb
     replace BK209 := bB BK209 hb
     replace BK210 := bB BK210 hb
     replace HK := Aside0.mk (Kept.below (S := (fun k_ => P3_ k_)) (kS3 HK GW208 GW209 GW210) hb)
     replace HB := Aside0.mk (below_step (bS3 HB GE208 GE209 GE210) hb)
     (try clear hb)
     (try clear ho0)
     obtain ⟨Ao15, co15, eo15⟩ := Kd.R_slice HO214.out
     (first | subst eo15 | (injection eo15 with f1_ f2_ f3_; have f4_ := f1_.symm; have f5_ := f3_.symm; clear f1_ f2_ f3_; subst f4_; subst f5_))
     refine hK.out _ _ ⟨(blk_cell BK209.out 0).trans rfl, (blk_cell BK209.out 1).trans rfl, (blk_cell BK208.out 0).trans rfl, (blk_cell BK208.out 1).trans rfl, (blk_cell BK208.out 2).trans rfl, (blk_cell BK208.out 3).trans rfl⟩ (fun hHeld => ?_)
     clear hK K
     refine normS (N := (some 25)) ?_
     refine pureT (i := 9) (N := some 26) HT_ ?_
     refine oneS (i := 10) (N := some 10) HT_ (fun K hK => ?_)
     refine box_step ?hg (N := 10) ?hd (cs := #[.int .i64 0, .int .i64 0, .string (⟨#[]⟩ : ByteArray), .string (⟨#[]⟩ : ByteArray), .slice none 0 0, .slice none 0 0]) (t := 27) ?hr ?_; (case hd => rfl); (case hg => rfl); (case hr => first | (go_simp; done) | (go_simp; rfl))
     intro gb215 hg w16 hbox hb
     have BK215 := Aside0.mk (hbox)
     have GW215 := Aside0.mk ((by rw [hg]; exact (kL3 HK GW208 GW209 GW210) : w.heap.size ≤ gb215))
     have GE215 := Aside0.mk ((by rw [hg]; exact (below_size (bS3 HB GE208 GE209 GE210)) : w0.heap.size ≤ gb215))
     have NB208_215 := nLt BK208 hg
     have NB215_208 := nGt BK208 hg
     have NB209_215 := nLt BK209 hg
     have NB215_209 := nGt BK209 hg
     have NB210_215 := nLt BK210 hg
     have NB215_210 := nGt BK210 hg
     replace HO3 := Aside0.mk (Kd.R_below (RS HO3) hb)
     replace HO214 := Aside0.mk (Kd.R_below (RS HO214) hb)
     replace BK208 := bB BK208 hb
     replace BK209 := bB BK209 hb
     replace BK210 := bB BK210 hb
     replace HK := Aside0.mk (Kept.below (S := (fun k_ => P3_ k_)) (kS3 HK GW208 GW209 GW210) hb)
     replace HB := Aside0.mk (below_step (bS3 HB GE208 GE209 GE210) hb)
     clear hb hbox hg
     refine hK.out _ _ ⟨(blk_cell BK209.out 0).trans rfl, (blk_cell BK209.out 1).trans rfl, (blk_cell BK208.out 0).trans rfl, (blk_cell BK208.out 1).trans rfl, (blk_cell BK208.out 2).trans rfl, (blk_cell BK208.out 3).trans rfl⟩ (fun hHeld => ?_)
     clear hK K
     refine normS (N := (some 10)) ?_
     exact normJ (hCont (.slice Ao15 t212.length co15, gb215) _ ⟨hHeld, (by (with_reducible repeat (first | apply Kd.R_alloc | apply Kd.R_drewN | apply Kd.R_drew)); exact Kd.R_mono HO214.out (fun _ hk => hk.1)), (RS HO3), (blkS BK208), (blkS BK209), (blkS BK210), (blkS BK215), GW215.out, GE215.out, NB208_215.out, NB215_208.out, NB209_215.out, NB215_209.out, NB210_215.out, NB215_210.out, (kS4 HK GW208 GW209 GW210 GW215), (bS4 HB GE208 GE209 GE210 GE215)⟩)
    ·skip
     refine box_step ?hg (N := 10) ?hd (cs := #[.int .i64 0, .int .i64 0, .string (⟨#[]⟩ : ByteArray), .string (⟨#[]⟩ : ByteArray), .slice none 0 0, .slice none 0 0]) (t := 27) ?hr ?_; (case hd => rfl); (case hg => rfl); (case hr => first | (go_simp; done) | (go_simp; rfl))
     intro gb215 hg w14 hbox hb
     have BK215 := Aside0.mk (hbox)
     have GW215 := Aside0.mk ((by rw [hg]; exact (kL3 HK GW208 GW209 GW210) : w.heap.size ≤ gb215))
     have GE215 := Aside0.mk ((by rw [hg]; exact (below_size (bS3 HB GE208 GE209 GE210)) : w0.heap.size ≤ gb215))
     have NB208_215 := nLt BK208 hg
     have NB215_208 := nGt BK208 hg
     have NB209_215 := nLt BK209 hg
     have NB215_209 := nGt BK209 hg
     have NB210_215 := nLt BK210 hg
     have NB215_210 := nGt BK210 hg
     replace HO3 := Aside0.mk (Kd.R_below (RS HO3) hb)
     replace BK208 := bB BK208 hb
     replace BK209 := bB BK209 hb
     replace BK210 := bB BK210 hb
     replace HK := Aside0.mk (Kept.below (S := (fun k_ => P3_ k_)) (kS3 HK GW208 GW209 GW210) hb)
     replace HB := Aside0.mk (below_step (bS3 HB GE208 GE209 GE210) hb)
     clear hb hbox hg
     refine hK.out _ _ ⟨(blk_cell BK209.out 0).trans rfl, (blk_cell BK209.out 1).trans rfl, (blk_cell BK208.out 0).trans rfl, (blk_cell BK208.out 1).trans rfl, (blk_cell BK208.out 2).trans rfl, (blk_cell BK208.out 3).trans rfl⟩ (fun hHeld => ?_)
     clear hK K
     refine normS (N := (some 10)) ?_
     refine oneS (i := 8) (N := some 25) HT_ (fun K hK => ?_)
     refine goes_ Try.func72 (by kernel_rfl) rfl #[.slice A0_3 l0_3.length c0_3, .agg #[.int .i64 a1_0, .int .i64 a1_1]] (by rfl) rfl rfl argS ?_
     with_reducible refine (topiaryref13_Attrs.calls k _ _ l0_3 a1_0 a1_1 t212 _ ?side1 ?side2 A6.out).mono ?_
     (case side1 => exact Kd.C_kept_now HR0_3.out (kS4 HK GW208 GW209 GW210 GW215))
     (case side2 => exact HC0_3.out)
     rintro e w15 ⟨v213, rfl, ho0, hb⟩
     refine ⟨_, rfl, ?_⟩
     have HO214 := Aside0.mk (Kd.R_lower (Kd.R_newM (M := fun k_ => (P3_ k_ ∨ w.heap.size ≤ k_)) ho0 (kL4 HK GW208 GW209 GW210 GW215) (fun k_ h_ => .inr h_)) (below_size (bS4 HB GE208 GE209 GE210 GE215)))
     replace HO3 := Aside0.mk (Kd.R_below (RS HO3) hb)
     replace BK208 := bB BK208 hb
     replace BK209 := bB BK209 hb
     replace BK210 := bB BK210 hb
     replace BK215 := bB BK215 hb
     replace HK := Aside0.mk (Kept.below (S := (fun k_ => P3_ k_)) (kS4 HK GW208 GW209 GW210 GW215) hb)
     replace HB := Aside0.mk (below_step (bS4 HB GE208 GE209 GE210 GE215) hb)
     (try clear hb)
     (try clear ho0)
     obtain ⟨Ao16, co16, eo16⟩ := Kd.R_slice HO214.out
     (first | subst eo16 | (injection eo16 with f1_ f2_ f3_; have f4_ := f1_.symm; have f5_ := f3_.symm; clear f1_ f2_ f3_; subst f4_; subst f5_))
     refine hK.out _ _ ⟨(blk_cell BK209.out 0).trans rfl, (blk_cell BK209.out 1).trans rfl, (blk_cell BK208.out 0).trans rfl, (blk_cell BK208.out 1).trans rfl, (blk_cell BK208.out 2).trans rfl, (blk_cell BK208.out 3).trans rfl⟩ (fun hHeld => ?_)
     clear hK K
     refine normS (N := (some 25)) ?_
     refine pureT (i := 9) (N := some 26) HT_ ?_
     exact normJ (hCont (.slice Ao16 t212.length co16, gb215) _ ⟨hHeld, (by (with_reducible repeat (first | apply Kd.R_alloc | apply Kd.R_drewN | apply Kd.R_drew)); exact Kd.R_mono HO214.out (fun _ hk => hk.1)), (RS HO3), (blkS BK208), (blkS BK209), (blkS BK210), (blkS BK215), GW215.out, GE215.out, NB208_215.out, NB215_208.out, NB209_215.out, NB215_209.out, NB210_215.out, NB215_210.out, (kS4 HK GW208 GW209 GW210 GW215), (bS4 HB GE208 GE209 GE210 GE215)⟩)
   ·skip
    refine box_step ?hg (N := 10) ?hd (cs := #[.int .i64 0, .int .i64 0, .string (⟨#[]⟩ : ByteArray), .string (⟨#[]⟩ : ByteArray), .slice none 0 0, .slice none 0 0]) (t := 27) ?hr ?_; (case hd => rfl); (case hg => rfl); (case hr => first | (go_simp; done) | (go_simp; rfl))
    intro gb215 hg w13 hbox hb
    have BK215 := Aside0.mk (hbox)
    have GW215 := Aside0.mk ((by rw [hg]; exact (kL3 HK GW208 GW209 GW210) : w.heap.size ≤ gb215))
    have GE215 := Aside0.mk ((by rw [hg]; exact (below_size (bS3 HB GE208 GE209 GE210)) : w0.heap.size ≤ gb215))
    have NB208_215 := nLt BK208 hg
    have NB215_208 := nGt BK208 hg
    have NB209_215 := nLt BK209 hg
    have NB215_209 := nGt BK209 hg
    have NB210_215 := nLt BK210 hg
    have NB215_210 := nGt BK210 hg
    replace HO3 := Aside0.mk (Kd.R_below (RS HO3) hb)
    replace BK208 := bB BK208 hb
    replace BK209 := bB BK209 hb
    replace BK210 := bB BK210 hb
    replace HK := Aside0.mk (Kept.below (S := (fun k_ => P3_ k_)) (kS3 HK GW208 GW209 GW210) hb)
    replace HB := Aside0.mk (below_step (bS3 HB GE208 GE209 GE210) hb)
    clear hb hbox hg
    refine hK.out _ _ ⟨(blk_cell BK209.out 0).trans rfl, (blk_cell BK209.out 1).trans rfl, (blk_cell BK208.out 0).trans rfl, (blk_cell BK208.out 1).trans rfl, (blk_cell BK208.out 2).trans rfl, (blk_cell BK208.out 3).trans rfl⟩ (fun hHeld => ?_)
    clear hK K
    refine normS (N := (some 10)) ?_
    refine oneS (i := 4) (N := some 21) HT_ (fun K hK => ?_)
    refine goes_ Try.func71 (by kernel_rfl) rfl #[.agg #[.slice A0_0 l0_0.length c0_0, .slice A0_1 l0_1.length c0_1, .slice A0_2 l0_2.length c0_2, .slice A0_3 l0_3.length c0_3], .agg #[.int .i64 a1_0, .int .i64 a1_1]] (by rfl) rfl rfl argS ?_
    with_reducible refine (topiaryref15_text.calls k _ _ l0_0 _ _ l0_1 _ _ l0_2 _ _ l0_3 a1_0 a1_1 t211 _ ?side1 ?side2 ?side3 ?side4 ?side5 ?side6 ?side7 ?side8 A5.out).mono ?_
    (case side1 => exact Kd.C_kept_now HR0_0.out (kS4 HK GW208 GW209 GW210 GW215))
    (case side2 => exact HC0_0.out)
    (case side3 => exact Kd.C_kept_now HR0_1.out (kS4 HK GW208 GW209 GW210 GW215))
    (case side4 => exact HC0_1.out)
    (case side5 => exact Kd.C_kept_now HR0_2.out (kS4 HK GW208 GW209 GW210 GW215))
    (case side6 => exact HC0_2.out)
    (case side7 => exact Kd.C_kept_now HR0_3.out (kS4 HK GW208 GW209 GW210 GW215))
    (case side8 => exact HC0_3.out)
    rintro e w14 ⟨rfl, hb⟩
    refine ⟨_, rfl, ?_⟩
    replace HO3 := Aside0.mk (Kd.R_below (RS HO3) hb)
    replace BK208 := bB BK208 hb
    replace BK209 := bB BK209 hb
    replace BK210 := bB BK210 hb
    replace BK215 := bB BK215 hb
    replace HK := Aside0.mk (Kept.below (S := (fun k_ => P3_ k_)) (kS4 HK GW208 GW209 GW210 GW215) hb)
    replace HB := Aside0.mk (below_step (bS4 HB GE208 GE209 GE210 GE215) hb)
    (try clear hb)
    refine hK.out _ _ ⟨(blk_cell BK209.out 0).trans rfl, (blk_cell BK209.out 1).trans rfl, (blk_cell BK208.out 0).trans rfl, (blk_cell BK208.out 1).trans rfl, (blk_cell BK208.out 2).trans rfl, (blk_cell BK208.out 3).trans rfl⟩ (fun hHeld => ?_)
    clear hK K
    refine normS (N := (some 21)) ?_
    refine oneS (i := 8) (N := some 25) HT_ (fun K hK => ?_)
    refine goes_ Try.func72 (by kernel_rfl) rfl #[.slice A0_3 l0_3.length c0_3, .agg #[.int .i64 a1_0, .int .i64 a1_1]] (by rfl) rfl rfl argS ?_
    with_reducible refine (topiaryref13_Attrs.calls k _ _ l0_3 a1_0 a1_1 t212 _ ?side1 ?side2 A6.out).mono ?_
    (case side1 => exact Kd.C_kept_now HR0_3.out (kS4 HK GW208 GW209 GW210 GW215))
    (case side2 => exact HC0_3.out)
    rintro e w15 ⟨v213, rfl, ho0, hb⟩
    refine ⟨_, rfl, ?_⟩
    have HO214 := Aside0.mk (Kd.R_lower (Kd.R_newM (M := fun k_ => (P3_ k_ ∨ w.heap.size ≤ k_)) ho0 (kL4 HK GW208 GW209 GW210 GW215) (fun k_ h_ => .inr h_)) (below_size (bS4 HB GE208 GE209 GE210 GE215)))
    replace HO3 := Aside0.mk (Kd.R_below (RS HO3) hb)
    replace BK208 := bB BK208 hb
    replace BK209 := bB BK209 hb
    replace BK210 := bB BK210 hb
    replace BK215 := bB BK215 hb
    replace HK := Aside0.mk (Kept.below (S := (fun k_ => P3_ k_)) (kS4 HK GW208 GW209 GW210 GW215) hb)
    replace HB := Aside0.mk (below_step (bS4 HB GE208 GE209 GE210 GE215) hb)
    (try clear hb)
    (try clear ho0)
    obtain ⟨Ao16, co16, eo16⟩ := Kd.R_slice HO214.out
    (first | subst eo16 | (injection eo16 with f1_ f2_ f3_; have f4_ := f1_.symm; have f5_ := f3_.symm; clear f1_ f2_ f3_; subst f4_; subst f5_))
    refine hK.out _ _ ⟨(blk_cell BK209.out 0).trans rfl, (blk_cell BK209.out 1).trans rfl, (blk_cell BK208.out 0).trans rfl, (blk_cell BK208.out 1).trans rfl, (blk_cell BK208.out 2).trans rfl, (blk_cell BK208.out 3).trans rfl⟩ (fun hHeld => ?_)
    clear hK K
    refine normS (N := (some 25)) ?_
    refine pureT (i := 9) (N := some 26) HT_ ?_
    exact normJ (hCont (.slice Ao16 t212.length co16, gb215) _ ⟨hHeld, (by (with_reducible repeat (first | apply Kd.R_alloc | apply Kd.R_drewN | apply Kd.R_drew)); exact Kd.R_mono HO214.out (fun _ hk => hk.1)), (RS HO3), (blkS BK208), (blkS BK209), (blkS BK210), (blkS BK215), GW215.out, GE215.out, NB208_215.out, NB215_208.out, NB209_215.out, NB215_209.out, NB210_215.out, NB215_210.out, (kS4 HK GW208 GW209 GW210 GW215), (bS4 HB GE208 GE209 GE210 GE215)⟩)
  clear HO3 BK208 BK209 BK210 HK HB
  rintro ⟨v213, gb215⟩ w17 ⟨hHeld, h0_, h1_, h2_, h3_, h4_, h5_, h6_, h7_, h8_, h9_, h10_, h11_, h12_, h13_, h14_, h15_⟩
  have HO214 := Aside0.mk h0_; have HO3 := Aside0.mk h1_; have BK208 := Aside0.mk h2_; have BK209 := Aside0.mk h3_; have BK210 := Aside0.mk h4_; have BK215 := Aside0.mk h5_; have GW215 := Aside0.mk h6_; have GE215 := Aside0.mk h7_; have NB208_215 := Aside0.mk h8_; have NB215_208 := Aside0.mk h9_; have NB209_215 := Aside0.mk h10_; have NB215_209 := Aside0.mk h11_; have NB210_215 := Aside0.mk h12_; have NB215_210 := Aside0.mk h13_; have HK := Aside0.mk h14_; have HB := Aside0.mk h15_
  clear h0_ h1_ h2_ h3_ h4_ h5_ h6_ h7_ h8_ h9_ h10_ h11_ h12_ h13_ h14_ h15_
  obtain ⟨Ao18, co18, eo18⟩ := Kd.R_slice HO214.out
  (first | subst eo18 | (injection eo18 with f1_ f2_ f3_; have f4_ := f1_.symm; have f5_ := f3_.symm; clear f1_ f2_ f3_; subst f4_; subst f5_))
  refine normP ?_
  refine oneS (i := 11) (N := none) HT_ (fun K hK => ?_)
  have hs19 : w17.cell? ⟨gb215, 0, none⟩ = some (.int .i64 0) := (blk_cell BK215.out 0).trans rfl
  have hfs19 := blk_frozen BK215.out 0
  have hns19_0 := NB208_215.out
  have hns19_1 := NB209_215.out
  have hns19_2 := NB210_215.out
  have hms19_0 := NB215_208.out
  have hms19_1 := NB215_209.out
  have hms19_2 := NB215_210.out
  have hs20 : w17.cell? ⟨gb215, 1, none⟩ = some (.int .i64 0) := (blk_cell BK215.out 1).trans rfl
  have hfs20 := blk_frozen BK215.out 1
  have hns20_0 := NB208_215.out
  have hns20_1 := NB209_215.out
  have hns20_2 := NB210_215.out
  have hms20_0 := NB215_208.out
  have hms20_1 := NB215_209.out
  have hms20_2 := NB215_210.out
  have hs21 : w17.cell? ⟨gb215, 2, none⟩ = some (.string (⟨#[]⟩ : ByteArray)) := (blk_cell BK215.out 2).trans rfl
  have hfs21 := blk_frozen BK215.out 2
  have hns21_0 := NB208_215.out
  have hns21_1 := NB209_215.out
  have hns21_2 := NB210_215.out
  have hms21_0 := NB215_208.out
  have hms21_1 := NB215_209.out
  have hms21_2 := NB215_210.out
  have hs22 : w17.cell? ⟨gb215, 3, none⟩ = some (.string (⟨#[]⟩ : ByteArray)) := (blk_cell BK215.out 3).trans rfl
  have hfs22 := blk_frozen BK215.out 3
  have hns22_0 := NB208_215.out
  have hns22_1 := NB209_215.out
  have hns22_2 := NB210_215.out
  have hms22_0 := NB215_208.out
  have hms22_1 := NB215_209.out
  have hms22_2 := NB215_210.out
  have hs23 : w17.cell? ⟨gb215, 4, none⟩ = some (.slice none 0 0) := (blk_cell BK215.out 4).trans rfl
  have hfs23 := blk_frozen BK215.out 4
  have hns23_0 := NB208_215.out
  have hns23_1 := NB209_215.out
  have hns23_2 := NB210_215.out
  have hms23_0 := NB215_208.out
  have hms23_1 := NB215_209.out
  have hms23_2 := NB215_210.out
  have hs24 : w17.cell? ⟨gb215, 5, none⟩ = some (.slice none 0 0) := (blk_cell BK215.out 5).trans rfl
  have hfs24 := blk_frozen BK215.out 5
  have hns24_0 := NB208_215.out
  have hns24_1 := NB209_215.out
  have hns24_2 := NB210_215.out
  have hms24_0 := NB215_208.out
  have hms24_1 := NB215_209.out
  have hms24_2 := NB215_210.out
  refine skip_ (w1 := ?_) (by rfl) rfl ?_ ?_
  rotate_left
  ·go_simp
   rfl
  refine hK.out _ _ ⟨((cell_far (p := ⟨gb215, _, none⟩) NB209_215.out _).trans (((cell_far (p := ⟨gb215, _, none⟩) NB209_215.out _).trans (((cell_far (p := ⟨gb215, _, none⟩) NB209_215.out _).trans (((cell_far (p := ⟨gb215, _, none⟩) NB209_215.out _).trans (((cell_far (p := ⟨gb215, _, none⟩) NB209_215.out _).trans (((cell_far (p := ⟨gb215, _, none⟩) NB209_215.out _).trans (hHeld.1)))))))))))), ((cell_far (p := ⟨gb215, _, none⟩) NB209_215.out _).trans (((cell_far (p := ⟨gb215, _, none⟩) NB209_215.out _).trans (((cell_far (p := ⟨gb215, _, none⟩) NB209_215.out _).trans (((cell_far (p := ⟨gb215, _, none⟩) NB209_215.out _).trans (((cell_far (p := ⟨gb215, _, none⟩) NB209_215.out _).trans (((cell_far (p := ⟨gb215, _, none⟩) NB209_215.out _).trans (hHeld.2.1)))))))))))), ((cell_far (p := ⟨gb215, _, none⟩) NB208_215.out _).trans (((cell_far (p := ⟨gb215, _, none⟩) NB208_215.out _).trans (((cell_far (p := ⟨gb215, _, none⟩) NB208_215.out _).trans (((cell_far (p := ⟨gb215, _, none⟩) NB208_215.out _).trans (((cell_far (p := ⟨gb215, _, none⟩) NB208_215.out _).trans (((cell_far (p := ⟨gb215, _, none⟩) NB208_215.out _).trans (hHeld.2.2.1)))))))))))), ((cell_far (p := ⟨gb215, _, none⟩) NB208_215.out _).trans (((cell_far (p := ⟨gb215, _, none⟩) NB208_215.out _).trans (((cell_far (p := ⟨gb215, _, none⟩) NB208_215.out _).trans (((cell_far (p := ⟨gb215, _, none⟩) NB208_215.out _).trans (((cell_far (p := ⟨gb215, _, none⟩) NB208_215.out _).trans (((cell_far (p := ⟨gb215, _, none⟩) NB208_215.out _).trans (hHeld.2.2.2.1)))))))))))), ((cell_far (p := ⟨gb215, _, none⟩) NB208_215.out _).trans (((cell_far (p := ⟨gb215, _, none⟩) NB208_215.out _).trans (((cell_far (p := ⟨gb215, _, none⟩) NB208_215.out _).trans (((cell_far (p := ⟨gb215, _, none⟩) NB208_215.out _).trans (((cell_far (p := ⟨gb215, _, none⟩) NB208_215.out _).trans (((cell_far (p := ⟨gb215, _, none⟩) NB208_215.out _).trans (hHeld.2.2.2.2.1)))))))))))), ((cell_far (p := ⟨gb215, _, none⟩) NB208_215.out _).trans (((cell_far (p := ⟨gb215, _, none⟩) NB208_215.out _).trans (((cell_far (p := ⟨gb215, _, none⟩) NB208_215.out _).trans (((cell_far (p := ⟨gb215, _, none⟩) NB208_215.out _).trans (((cell_far (p := ⟨gb215, _, none⟩) NB208_215.out _).trans (((cell_far (p := ⟨gb215, _, none⟩) NB208_215.out _).trans (hHeld.2.2.2.2.2))))))))))))⟩ (fun hHeld => ?_)
  clear hK K
  refine done_ (done_of HT_.out (by kernel_rfl)) ?_
  have hnb25 := NB209_208.out
  have hnc25 := NB208_209.out
  have hnb26 := NB209_210.out
  have hnc26 := NB210_209.out
  have hnb27 := NB209_215.out
  have hnc27 := NB215_209.out
  obtain ⟨hcz28_0, hcz28_1, hfz28_0, hfz28_1⟩ := b2e BK209
  try go_wp2_with (first | ((with_reducible refine gate_builtin (b := .append) (xs := #[.tmp 27, .tmp 29]) rfl ?_); (try (refine gate_guard (by rfl) ?_; dsimp only)); at_builtin; refine Kd.R_append k23 (w0 := w0) w0.heap.size rfl (.tmp 27) (.tmp 29) 48 23 (.agg #[(.int .i64 0), (.int .i64 0)]) 16 rfl Try.underlying48 info23 rfl (by decide) (by omega) u9000_ l3 (⟨a1_0, a1_1⟩ : S23) [.int .i64 a1_0, .int .i64 a1_1] (fun k_ => (P3_ k_ ∨ w.heap.size ≤ k_) ∧ k_ ≠ gb209) (fun _ => False) rfl (by first | (go_simp; done) | (go_simp; rfl)) ?aP (fun _ hk => hk.elim) ?aF ?aO ?aB ?aS ?aL ?_; (case aP => exact k23_mkM _ _ _ (⟨a1_0, a1_1⟩ : S23)); (case aB => exact (bS4 HB GE208 GE209 GE210 GE215)); (case aF => exact (fun k_ hk => ⟨(.inr (Nat.le_trans (show Kept w _ (fun k_ => P3_ k_) from by repeat (first | (with_reducible first | exact HK.out | apply Kept.alloc | apply Kept.drewN | apply Kept.drew | refine Kept.setCell ?_ (.inr GW208.out) _ | refine Kept.setCell ?_ (.inr GW209.out) _ | refine Kept.setCell ?_ (.inr GW210.out) _ | refine Kept.setCell ?_ (.inr GW215.out) _) | exact HK.out)).1 hk)), Kd.freshB (g := gb209) (o := .cells #[.int .i64 a1_0, .int .i64 a1_1] 23 (0, 0)) (by (with_reducible repeat (first | refine blk_drewN ?_ _ | refine blk_drew ?_ | refine blk_alloc ?_ _)); refine blk_far ?_ NB209_215.out _; (with_reducible repeat (first | refine blk_drewN ?_ _ | refine blk_drew ?_ | refine blk_alloc ?_ _)); refine blk_far ?_ NB209_215.out _; (with_reducible repeat (first | refine blk_drewN ?_ _ | refine blk_drew ?_ | refine blk_alloc ?_ _)); refine blk_far ?_ NB209_215.out _; (with_reducible repeat (first | refine blk_drewN ?_ _ | refine blk_drew ?_ | refine blk_alloc ?_ _)); refine blk_far ?_ NB209_215.out _; (with_reducible repeat (first | refine blk_drewN ?_ _ | refine blk_drew ?_ | refine blk_alloc ?_ _)); refine blk_far ?_ NB209_215.out _; (with_reducible repeat (first | refine blk_drewN ?_ _ | refine blk_drew ?_ | refine blk_alloc ?_ _)); refine blk_far ?_ NB209_215.out _; (with_reducible repeat (first | refine blk_drewN ?_ _ | refine blk_drew ?_ | refine blk_alloc ?_ _)); exact BK209.out) k_ hk⟩)); (case aO => exact (by (with_reducible repeat (first | apply Kd.R_alloc | apply Kd.R_drewN | apply Kd.R_drew)); exact Kd.R_mono (Kd.R_far (p := ⟨gb215, 5, none⟩) (Kd.R_far (p := ⟨gb215, 4, none⟩) (Kd.R_far (p := ⟨gb215, 3, none⟩) (Kd.R_far (p := ⟨gb215, 2, none⟩) (Kd.R_far (p := ⟨gb215, 1, none⟩) (Kd.R_far (p := ⟨gb215, 0, none⟩) (Kd.R_types HO3.out BK215.out (by decide)) (fun _ hk => hk.2) (.int .i64 a1_0)) (fun _ hk => hk.2) (.int .i64 a1_1)) (fun _ hk => hk.2) (.string a2)) (fun _ hk => hk.2) (.string t211)) (fun _ hk => hk.2) (.slice Ao18 t212.length co18)) (fun _ hk => hk.2) (.slice none 0 0)) (fun _ hk => ⟨hk.1.1, hk.1.2⟩))); (case aS => exact (below_size (bS4 HB GE208 GE209 GE210 GE215))); (case aL => have := LMc7.out; omega); intro v217 w29 ho hb hg hat; rw [← Ny216.out] at ho; have n0_ := Aside0.mk (blk_grown (g := gb208) (o := .cells #[.slice A0_0 l0_0.length c0_0, .slice A0_1 l0_1.length c0_1, .slice A0_2 l0_2.length c0_2, .slice A0_3 l0_3.length c0_3] 39 (0, 0)) (by (with_reducible repeat (first | refine blk_drewN ?_ _ | refine blk_drew ?_ | refine blk_alloc ?_ _)); refine blk_far ?_ NB208_215.out _; (with_reducible repeat (first | refine blk_drewN ?_ _ | refine blk_drew ?_ | refine blk_alloc ?_ _)); refine blk_far ?_ NB208_215.out _; (with_reducible repeat (first | refine blk_drewN ?_ _ | refine blk_drew ?_ | refine blk_alloc ?_ _)); refine blk_far ?_ NB208_215.out _; (with_reducible repeat (first | refine blk_drewN ?_ _ | refine blk_drew ?_ | refine blk_alloc ?_ _)); refine blk_far ?_ NB208_215.out _; (with_reducible repeat (first | refine blk_drewN ?_ _ | refine blk_drew ?_ | refine blk_alloc ?_ _)); refine blk_far ?_ NB208_215.out _; (with_reducible repeat (first | refine blk_drewN ?_ _ | refine blk_drew ?_ | refine blk_alloc ?_ _)); refine blk_far ?_ NB208_215.out _; (with_reducible repeat (first | refine blk_drewN ?_ _ | refine blk_drew ?_ | refine blk_alloc ?_ _)); exact BK208.out) hg (Kd.R_ne HO3.out BK208.out (by decide))); have n1_ := Aside0.mk (blk_grown (g := gb209) (o := .cells #[.int .i64 a1_0, .int .i64 a1_1] 23 (0, 0)) (by (with_reducible repeat (first | refine blk_drewN ?_ _ | refine blk_drew ?_ | refine blk_alloc ?_ _)); refine blk_far ?_ NB209_215.out _; (with_reducible repeat (first | refine blk_drewN ?_ _ | refine blk_drew ?_ | refine blk_alloc ?_ _)); refine blk_far ?_ NB209_215.out _; (with_reducible repeat (first | refine blk_drewN ?_ _ | refine blk_drew ?_ | refine blk_alloc ?_ _)); refine blk_far ?_ NB209_215.out _; (with_reducible repeat (first | refine blk_drewN ?_ _ | refine blk_drew ?_ | refine blk_alloc ?_ _)); refine blk_far ?_ NB209_215.out _; (with_reducible repeat (first | refine blk_drewN ?_ _ | refine blk_drew ?_ | refine blk_alloc ?_ _)); refine blk_far ?_ NB209_215.out _; (with_reducible repeat (first | refine blk_drewN ?_ _ | refine blk_drew ?_ | refine blk_alloc ?_ _)); refine blk_far ?_ NB209_215.out _; (with_reducible repeat (first | refine blk_drewN ?_ _ | refine blk_drew ?_ | refine blk_alloc ?_ _)); exact BK209.out) hg (Kd.R_away HO3.out (fun _ hk => hk.2))); have n2_ := Aside0.mk (blk_grown (g := gb210) (o := .cells #[.int .i64 0, .int .i64 0, .string (⟨#[]⟩ : ByteArray), .string (⟨#[]⟩ : ByteArray), .slice none 0 0, .slice none 0 0] 27 (0, 0)) (by (with_reducible repeat (first | refine blk_drewN ?_ _ | refine blk_drew ?_ | refine blk_alloc ?_ _)); refine blk_far ?_ NB210_215.out _; (with_reducible repeat (first | refine blk_drewN ?_ _ | refine blk_drew ?_ | refine blk_alloc ?_ _)); refine blk_far ?_ NB210_215.out _; (with_reducible repeat (first | refine blk_drewN ?_ _ | refine blk_drew ?_ | refine blk_alloc ?_ _)); refine blk_far ?_ NB210_215.out _; (with_reducible repeat (first | refine blk_drewN ?_ _ | refine blk_drew ?_ | refine blk_alloc ?_ _)); refine blk_far ?_ NB210_215.out _; (with_reducible repeat (first | refine blk_drewN ?_ _ | refine blk_drew ?_ | refine blk_alloc ?_ _)); refine blk_far ?_ NB210_215.out _; (with_reducible repeat (first | refine blk_drewN ?_ _ | refine blk_drew ?_ | refine blk_alloc ?_ _)); refine blk_far ?_ NB210_215.out _; (with_reducible repeat (first | refine blk_drewN ?_ _ | refine blk_drew ?_ | refine blk_alloc ?_ _)); exact BK210.out) hg (Kd.R_ne HO3.out BK210.out (by decide))); have n3_ := Aside0.mk (Kd.R_over' (by (with_reducible repeat (first | apply Kd.R_alloc | apply Kd.R_drewN | apply Kd.R_drew)); exact (Kd.R_mono (Kd.R_far (p := ⟨gb215, 5, none⟩) (Kd.R_far (p := ⟨gb215, 4, none⟩) (Kd.R_far (p := ⟨gb215, 3, none⟩) (Kd.R_far (p := ⟨gb215, 2, none⟩) (Kd.R_far (p := ⟨gb215, 1, none⟩) (Kd.R_far (p := ⟨gb215, 0, none⟩) (Kd.R_types HO214.out BK215.out (by decide)) (fun _ hk => hk.2) (.int .i64 a1_0)) (fun _ hk => hk.2) (.int .i64 a1_1)) (fun _ hk => hk.2) (.string a2)) (fun _ hk => hk.2) (.string t211)) (fun _ hk => hk.2) (.slice Ao18 t212.length co18)) (fun _ hk => hk.2) (.slice none 0 0)) (fun _ h_ => h_.1))) (Kd.R_typed (by (with_reducible repeat (first | apply Kd.R_alloc | apply Kd.R_drewN | apply Kd.R_drew)); exact (Kd.R_mono (Kd.R_far (p := ⟨gb215, 5, none⟩) (Kd.R_far (p := ⟨gb215, 4, none⟩) (Kd.R_far (p := ⟨gb215, 3, none⟩) (Kd.R_far (p := ⟨gb215, 2, none⟩) (Kd.R_far (p := ⟨gb215, 1, none⟩) (Kd.R_far (p := ⟨gb215, 0, none⟩) (Kd.R_types HO3.out BK215.out (by decide)) (fun _ hk => hk.2) (.int .i64 a1_0)) (fun _ hk => hk.2) (.int .i64 a1_1)) (fun _ hk => hk.2) (.string a2)) (fun _ hk => hk.2) (.string t211)) (fun _ hk => hk.2) (.slice Ao18 t212.length co18)) (fun _ hk => hk.2) (.slice none 0 0)) (fun _ h_ => h_.1)))) (by decide) hg); have n4_ := Aside0.mk (blk_grown (g := gb215) (o := .cells #[.int .i64 a1_0, .int .i64 a1_1, .string a2, .string t211, .slice Ao18 t212.length co18, .slice none 0 0] 27 (0, 0)) (by (with_reducible repeat (first | refine blk_drewN ?_ _ | refine blk_drew ?_ | refine blk_alloc ?_ _)); refine blk_put (cs := #[.int .i64 a1_0, .int .i64 a1_1, .string a2, .string t211, .slice Ao18 t212.length co18, .slice none 0 0]) ?_ 5 _ rfl; (with_reducible repeat (first | refine blk_drewN ?_ _ | refine blk_drew ?_ | refine blk_alloc ?_ _)); refine blk_put (cs := #[.int .i64 a1_0, .int .i64 a1_1, .string a2, .string t211, .slice none 0 0, .slice none 0 0]) ?_ 4 _ rfl; (with_reducible repeat (first | refine blk_drewN ?_ _ | refine blk_drew ?_ | refine blk_alloc ?_ _)); refine blk_put (cs := #[.int .i64 a1_0, .int .i64 a1_1, .string a2, .string (⟨#[]⟩ : ByteArray), .slice none 0 0, .slice none 0 0]) ?_ 3 _ rfl; (with_reducible repeat (first | refine blk_drewN ?_ _ | refine blk_drew ?_ | refine blk_alloc ?_ _)); refine blk_put (cs := #[.int .i64 a1_0, .int .i64 a1_1, .string (⟨#[]⟩ : ByteArray), .string (⟨#[]⟩ : ByteArray), .slice none 0 0, .slice none 0 0]) ?_ 2 _ rfl; (with_reducible repeat (first | refine blk_drewN ?_ _ | refine blk_drew ?_ | refine blk_alloc ?_ _)); refine blk_put (cs := #[.int .i64 a1_0, .int .i64 0, .string (⟨#[]⟩ : ByteArray), .string (⟨#[]⟩ : ByteArray), .slice none 0 0, .slice none 0 0]) ?_ 1 _ rfl; (with_reducible repeat (first | refine blk_drewN ?_ _ | refine blk_drew ?_ | refine blk_alloc ?_ _)); refine blk_put (cs := #[.int .i64 0, .int .i64 0, .string (⟨#[]⟩ : ByteArray), .string (⟨#[]⟩ : ByteArray), .slice none 0 0, .slice none 0 0]) ?_ 0 _ rfl; (with_reducible repeat (first | refine blk_drewN ?_ _ | refine blk_drew ?_ | refine blk_alloc ?_ _)); exact BK215.out) hg (Kd.R_ne HO3.out BK215.out (by decide))); have n5_ := Aside0.mk (hb); have n6_ := Aside0.mk (Kept.of_grown (S := (fun k_ => P3_ k_)) hg (kS4 HK GW208 GW209 GW210 GW215) (fun k_ e_ => (HO3.out.1 k_ e_).1)); have n7_ := Aside0.mk (ho); clear BK208; clear BK209; clear BK210; clear HO214; clear BK215; clear HB; clear HK; clear HO3; have BK208 := n0_; have BK209 := n1_; have BK210 := n2_; have HO214 := n3_; have BK215 := n4_; have HB := n5_; have HK := n6_; have HO218 := n7_; clear n0_ n1_ n2_ n3_ n4_ n5_ n6_ n7_; clear ho hb hg hat; have hnb30 := NB208_210.out; have hnc30 := NB210_208.out; have hnb31 := NB208_215.out; have hnc31 := NB215_208.out; obtain ⟨hcz32_0, hcz32_1, hcz32_2, hcz32_3, hfz32_0, hfz32_1, hfz32_2, hfz32_3⟩ := b4e BK208; have hcz33_0 : w29.cell? ⟨gb209, 0, none⟩ = some (.int .i64 a1_0) := (blk_cell BK209.out 0).trans rfl; have hcz33_1 : w29.cell? ⟨gb209, 1, none⟩ = some (.int .i64 a1_1) := (blk_cell BK209.out 1).trans rfl; have hfz33_0 := blk_frozen BK209.out 0; have hfz33_1 := blk_frozen BK209.out 1) | ((with_reducible refine gate_callee (f := 73) rfl ?_); refine goesL_ (some 33) rfl rfl Try.func73 (by kernel_rfl) rfl #[.agg #[.slice A0_0 l0_0.length c0_0, .slice A0_1 l0_1.length c0_1, .slice A0_2 l0_2.length c0_2, .slice A0_3 l0_3.length c0_3], .agg #[.int .i64 a1_0, .int .i64 a1_1]] rfl argS ?_; (with_reducible refine (topiaryref14_Kids.calls k _ _ l0_0 _ _ l0_1 _ _ l0_2 _ _ l0_3 a1_0 a1_1 t219 _ ?side1 ?side2 ?side3 ?side4 ?side5 ?side6 ?side7 ?side8 A8.out).mono ?_); (case side1 => exact Kd.C_kept_now HR0_0.out (kS4 HK GW208 GW209 GW210 GW215)); (case side2 => exact HC0_0.out); (case side3 => exact Kd.C_kept_now HR0_1.out (kS4 HK GW208 GW209 GW210 GW215)); (case side4 => exact HC0_1.out); (case side5 => exact Kd.C_kept_now HR0_2.out (kS4 HK GW208 GW209 GW210 GW215)); (case side6 => exact HC0_2.out); (case side7 => exact Kd.C_kept_now HR0_3.out (kS4 HK GW208 GW209 GW210 GW215)); (case side8 => exact HC0_3.out); rintro e w34 ⟨v220, rfl, ho0, hb⟩; refine ⟨_, rfl, ?_⟩; have HO221 := Aside0.mk (Kd.R_lower (Kd.R_newB (Kd.R_new' (Kd.R_newM (M := fun k_ => (P3_ k_ ∨ w.heap.size ≤ k_)) ho0 (kL4 HK GW208 GW209 GW210 GW215) (fun k_ h_ => .inr h_)) (Kd.R_lt (RS HO218))) (g := gb209) (o := .cells #[.int .i64 a1_0, .int .i64 a1_1] 23 (0, 0)) (blkS BK209)) (below_size (bS4 HB GE208 GE209 GE210 GE215))); replace HO214 := Aside0.mk (Kd.R_below (RS HO214) hb); replace HO218 := Aside0.mk (Kd.R_elder' (RS HO218) (Kd.R_base ho0) hb); replace BK208 := bB BK208 hb; replace BK209 := bB BK209 hb; replace BK210 := bB BK210 hb; replace BK215 := bB BK215 hb; replace HK := Aside0.mk (Kept.below (S := (fun k_ => P3_ k_)) (kS4 HK GW208 GW209 GW210 GW215) hb); replace HB := Aside0.mk (below_step (bS4 HB GE208 GE209 GE210 GE215) hb); (try clear hb); (try clear ho0)))
  go_loopg [3, 12] k (fun kq v3 v12 w' => ∃ (x3_1 : List (S23)) (x12_1 : Int) (x216005_1 : List (S27)) (u216005 : Value), v12 = .int .i64 x12_1 ∧ Aside0 (topiaryref15_below.l0 kq x3_1 t219 x12_1 l0_0 l0_1 l0_2 l0_3 a1_0 a1_1 a2 t211 t212 x216005_1 = some (r1, r2, r3, r4, r5, r6, r7)) ∧ Aside0 (kq ≤ k) ∧ Aside0 (Kd.R k23 23 w' w0.heap.size (fun k_ => (P3_ k_ ∨ w.heap.size ≤ k_) ∧ some k_ ≠ (v220 : Value).ownBlock ∧ k_ ≠ gb209) v3 x3_1) ∧ Aside0 (Kd.R k23 23 w' w0.heap.size (fun k_ => (P3_ k_ ∨ w.heap.size ≤ k_) ∧ some k_ ≠ (v3 : Value).ownBlock ∧ k_ ≠ gb209) v220 t219) ∧ Aside0 (Kd.R k99 99 w' w0.heap.size (fun k_ => (P3_ k_ ∨ w.heap.size ≤ k_)) (.slice Ao18 t212.length co18) t212) ∧ Aside0 (Kd.N k27 27 w' w.heap.size (fun k_ => (P3_ k_ ∨ w.heap.size ≤ k_) ∧ some k_ ≠ (v3 : Value).ownBlock ∧ some k_ ≠ (v220 : Value).ownBlock ∧ some k_ ≠ ((.slice Ao18 t212.length co18) : Value).ownBlock ∧ k_ ≠ gb208 ∧ k_ ≠ gb209 ∧ k_ ≠ gb210 ∧ k_ ≠ gb215) u216005 x216005_1) ∧ Aside0 (w'.heap[gb208]? = some (.cells #[(.slice A0_0 l0_0.length c0_0), (.slice A0_1 l0_1.length c0_1), (.slice A0_2 l0_2.length c0_2), (.slice A0_3 l0_3.length c0_3)] 39 (0, 0))) ∧ Aside0 (w'.heap[gb209]? = some (.cells #[.int .i64 a1_0, .int .i64 a1_1] 23 (0, 0))) ∧ Aside0 (w'.heap[gb210]? = some (.cells #[.int .i64 0, .int .i64 0, .string (⟨#[]⟩ : ByteArray), .string (⟨#[]⟩ : ByteArray), (.slice none 0 0), (.slice none 0 0)] 27 (0, 0))) ∧ Aside0 (w'.heap[gb215]? = some (.cells #[.int .i64 a1_0, .int .i64 a1_1, .string a2, .string t211, (.slice Ao18 t212.length co18), u216005] 27 (0, 0))) ∧ Aside0 (Kept w w' (fun k_ => P3_ k_)) ∧ Aside0 (Below w0.heap.size w0 w'))
  case atStart => exact ⟨(y216), (0), (([] : List (S27))), (.slice none 0 0), (by first | rfl | (simp; done) | (simp [*]; done)), H', ⟨Nat.le_refl _⟩, ⟨by (with_reducible repeat (first | apply Kd.R_alloc | apply Kd.R_drewN | apply Kd.R_drew)); exact Kd.R_mono HO218.out (fun _ hk => ⟨hk.1.1, ⟨hk.2, hk.1.2⟩⟩)⟩, ⟨by (with_reducible repeat (first | apply Kd.R_alloc | apply Kd.R_drewN | apply Kd.R_drew)); exact Kd.R_mono HO221.out (fun _ hk => ⟨hk.1.1.1, ⟨hk.1.2, hk.2⟩⟩)⟩, ⟨by (with_reducible repeat (first | apply Kd.R_alloc | apply Kd.R_drewN | apply Kd.R_drew)); exact HO214.out⟩, ⟨by first | exact Kd.R_nil _ _ _ _ _ | exact Kd.N_nil _ _ _ _ _ | exact Kd.V_nil _ _ _ _ _ | exact Kd.Q_nil _ _ _ _ _ | exact Kd.S_nil _ _ _ _ _⟩, ⟨by (with_reducible repeat (first | refine blk_drewN ?_ _ | refine blk_drew ?_ | refine blk_alloc ?_ _)); exact BK208.out⟩, ⟨by (with_reducible repeat (first | refine blk_drewN ?_ _ | refine blk_drew ?_ | refine blk_alloc ?_ _)); exact BK209.out⟩, ⟨by (with_reducible repeat (first | refine blk_drewN ?_ _ | refine blk_drew ?_ | refine blk_alloc ?_ _)); exact BK210.out⟩, ⟨by (with_reducible repeat (first | refine blk_drewN ?_ _ | refine blk_drew ?_ | refine blk_alloc ?_ _)); exact BK215.out⟩, ⟨kS4 HK GW208 GW209 GW210 GW215⟩, ⟨bS4 HB GE208 GE209 GE210 GE215⟩⟩
  case round =>
   clear H'
   (try clear c2); (try clear p2); (try clear c3); (try clear c5); (try clear c7); (try clear c25); (try clear c26); (try clear c27); (try clear c30); (try clear c31); (try clear hcz28_0 hcz28_1); (try clear hcz32_0 hcz32_1 hcz32_2 hcz32_3); (try clear hcz33_0 hcz33_1); (try clear hfz28_0 hfz28_1); (try clear hfz32_0 hfz32_1 hfz32_2 hfz32_3); (try clear hfz33_0 hfz33_1)
   obtain ⟨x3_1, x12_1, x216005_1, u216005, rfl, HA, HK1, HO_3, HO_11, HO_216004, HO_216005, BK208, BK209, BK210, BK215, HK, HB⟩ := hrel
   cases gk with
   | zero => exact absurd HA.out (by simp [topiaryref15_below.l0])
   | succ k1 =>
    have H := HA.out
    clear HA
    simp only [topiaryref15_below.l0] at H
    by_cases c35 : x12_1 < (t219.length : Int)
    ·rw [if_pos c35] at H
     have c35b0 : decide (x12_1 < (t219.length : Int)) = true := decide_eq_true c35
     clear c35
     by_cases c36 : 0 ≤ x12_1
     ·rw [if_pos c36] at H
      have c36b0 : decide (0 ≤ x12_1) = true := decide_eq_true c36
      clear c36
      replace H := Option.bind_eq_some_iff.mp H
      obtain ⟨⟨t223, t224⟩, A370, H⟩ := H
      replace H : (if t224 = true then ((topiaryref01_Has.f k1 x3_1 ((rd_T23 t219 x12_1).f0) ((rd_T23 t219 x12_1).f1)).bind fun t226 => (if t226 = true then (topiaryref15_below.l0 k1 x3_1 t219 (wrap64 (x12_1 + 1)) l0_0 l0_1 l0_2 l0_3 a1_0 a1_1 a2 t211 t212 x216005_1) else (if (x3_1.length : Int) > 8192 then (topiaryref15_below.l0 k1 x3_1 t219 (wrap64 (x12_1 + 1)) l0_0 l0_1 l0_2 l0_3 a1_0 a1_1 a2 t211 t212 x216005_1) else ((topiaryref15_below.f k1 l0_0 l0_1 l0_2 l0_3 ((rd_T23 t219 x12_1).f0) ((rd_T23 t219 x12_1).f1) t223 x3_1).bind fun bt228 => (if x216005_1.length < 1466015503701 then (topiaryref15_below.l0 k1 bt228.2.2.2.2.2.2 t219 (wrap64 (x12_1 + 1)) l0_0 l0_1 l0_2 l0_3 a1_0 a1_1 a2 t211 t212 (x216005_1 ++ [(⟨(⟨bt228.1, bt228.2.1⟩ : S23), bt228.2.2.1, bt228.2.2.2.1, bt228.2.2.2.2.1, bt228.2.2.2.2.2.1⟩ : S27)])) else (none)))))) else (topiaryref15_below.l0 k1 x3_1 t219 (wrap64 (x12_1 + 1)) l0_0 l0_1 l0_2 l0_3 a1_0 a1_1 a2 t211 t212 x216005_1)) = some (r1, r2, r3, r4, r5, r6, r7) := H
      have A37 := Aside0.mk A370
      clear A370
      by_cases c38 : t224 = true
      ·subst c38
       have H1 : ((topiaryref01_Has.f k1 x3_1 ((rd_T23 t219 x12_1).f0) ((rd_T23 t219 x12_1).f1)).bind fun t226 => (if t226 = true then (topiaryref15_below.l0 k1 x3_1 t219 (wrap64 (x12_1 + 1)) l0_0 l0_1 l0_2 l0_3 a1_0 a1_1 a2 t211 t212 x216005_1) else (if (x3_1.length : Int) > 8192 then (topiaryref15_below.l0 k1 x3_1 t219 (wrap64 (x12_1 + 1)) l0_0 l0_1 l0_2 l0_3 a1_0 a1_1 a2 t211 t212 x216005_1) else ((topiaryref15_below.f k1 l0_0 l0_1 l0_2 l0_3 ((rd_T23 t219 x12_1).f0) ((rd_T23 t219 x12_1).f1) t223 x3_1).bind fun bt228 => (if x216005_1.length < 1466015503701 then (topiaryref15_below.l0 k1 bt228.2.2.2.2.2.2 t219 (wrap64 (x12_1 + 1)) l0_0 l0_1 l0_2 l0_3 a1_0 a1_1 a2 t211 t212 (x216005_1 ++ [(⟨(⟨bt228.1, bt228.2.1⟩ : S23), bt228.2.2.1, bt228.2.2.2.1, bt228.2.2.2.2.1, bt228.2.2.2.2.2.1⟩ : S27)])) else (none)))))) = some (r1, r2, r3, r4, r5, r6, r7) := by rw [if_pos rfl] at H; exact H
       clear H
       have H := H1
       clear H1
       replace H := Option.bind_eq_some_iff.mp H
       obtain ⟨t226, A390, H⟩ := H
       replace H : (if t226 = true then (topiaryref15_below.l0 k1 x3_1 t219 (wrap64 (x12_1 + 1)) l0_0 l0_1 l0_2 l0_3 a1_0 a1_1 a2 t211 t212 x216005_1) else (if (x3_1.length : Int) > 8192 then (topiaryref15_below.l0 k1 x3_1 t219 (wrap64 (x12_1 + 1)) l0_0 l0_1 l0_2 l0_3 a1_0 a1_1 a2 t211 t212 x216005_1) else ((topiaryref15_below.f k1 l0_0 l0_1 l0_2 l0_3 ((rd_T23 t219 x12_1).f0) ((rd_T23 t219 x12_1).f1) t223 x3_1).bind fun bt228 => (if x216005_1.length < 1466015503701 then (topiaryref15_below.l0 k1 bt228.2.2.2.2.2.2 t219 (wrap64 (x12_1 + 1)) l0_0 l0_1 l0_2 l0_3 a1_0 a1_1 a2 t211 t212 (x216005_1 ++ [(⟨(⟨bt228.1, bt228.2.1⟩ : S23), bt228.2.2.1, bt228.2.2.2.1, bt228.2.2.2.2.1, bt228.2.2.2.2.2.1⟩ : S27)])) else (none))))) = some (r1, r2, r3, r4, r5, r6, r7) := H
       have A39 := Aside0.mk A390
       clear A390
       by_cases c40 : t226 = true
       ·subst c40
        have H1 : (topiaryref15_below.l0 k1 x3_1 t219 (wrap64 (x12_1 + 1)) l0_0 l0_1 l0_2 l0_3 a1_0 a1_1 a2 t211 t212 x216005_1) = some (r1, r2, r3, r4, r5, r6, r7) := by rw [if_pos rfl] at H; exact H
        clear H
        have H := H1
        clear H1
        have H' := Aside0.mk H
        clear H
        obtain ⟨Ao41, co41, eo41⟩ := Kd.R_slice HO_11.out
        subst eo41
        try go_wp2
        replace HO_3 := Aside0.mk (Kd.R_drew HO_3.out)
        replace HO_11 := Aside0.mk (Kd.R_drew HO_11.out)
        replace HO_216004 := Aside0.mk (Kd.R_drew HO_216004.out)
        replace HO_216005 := Aside0.mk (Kd.N_drew HO_216005.out)
        replace BK208 := Aside0.mk (blk_drew BK208.out)
        replace BK209 := Aside0.mk (blk_drew BK209.out)
        replace BK210 := Aside0.mk (blk_drew BK210.out)
        replace BK215 := Aside0.mk (blk_drew BK215.out)
        replace HK := Aside0.mk (Kept.drew HK.out)
        replace HB := Aside0.mk (below_drew1 HB.out)
        have p222 : 0 ≤ (x12_1 : Int) := of_decide_eq_true asmS
        have q222 : x12_1 < (t219.length : Int) := of_decide_eq_true asmS
        obtain ⟨ad222, e222, hx222_0, hx222_1⟩ := at_T23 (Kd.R_reads' HO_11.out).2.2 x12_1 p222 q222
        cases e222
        replace p222 := eq_true p222
        replace q222 := eq_true q222
        refine startS (n := 11) (S := fun w' => w'.cell? ⟨gb208, 0, none⟩ = some (.slice A0_0 l0_0.length c0_0) ∧ w'.cell? ⟨gb208, 1, none⟩ = some (.slice A0_1 l0_1.length c0_1) ∧ w'.cell? ⟨gb208, 2, none⟩ = some (.slice A0_2 l0_2.length c0_2) ∧ w'.cell? ⟨gb208, 3, none⟩ = some (.slice A0_3 l0_3.length c0_3) ∧ w'.cell? (ad222.add ((x12_1).toNat * 2)) = some (.int .i64 ((rd_T23 t219 x12_1).f0)) ∧ w'.cell? ⟨(ad222.add ((x12_1).toNat * 2)).block, (ad222.add ((x12_1).toNat * 2)).off + 1, none⟩ = some (.int .i64 ((rd_T23 t219 x12_1).f1))) (ds := []) ⟨(blk_cell BK208.out 0).trans rfl, (blk_cell BK208.out 1).trans rfl, (blk_cell BK208.out 2).trans rfl, (blk_cell BK208.out 3).trans rfl, hx222_0, hx222_1⟩ (fun hHeld => ?_); refine with_tabW topiaryref15_below.tab7 topiaryref15_below.bits7 (fun HT_ HW_ => ?_)
        generalize wr.drew = w42 at HO_3 HO_11 HO_216004 HO_216005 BK208 BK209 BK210 BK215 HK HB hx222_0 hx222_1 hHeld ⊢
        refine pureT (i := 1) (N := some 42) HT_ ?_
        refine pureT (i := 2) (N := some 43) HT_ ?_
        refine pureT (i := 3) (N := some 44) HT_ ?_
        refine takeS (i := 0) (N := some 41) (v := ?_) HT_ HW_ hHeld ?_ ?_
        rotate_left
        ·rintro w' ⟨s0, s1, s2, s3, s4, s5⟩
         go_simp
         with_reducible rfl
        refine normS (N := some 41) ?_
        refine takeS (i := 4) (N := some 45) (v := ?_) HT_ HW_ hHeld ?_ ?_
        rotate_left
        ·rintro w' ⟨s0, s1, s2, s3, s4, s5⟩
         go_simp
         with_reducible rfl
        refine normS (N := some 45) ?_
        refine oneS (i := 5) (N := some 46) HT_ (fun K hK => ?_)
        refine goes_ Try.func56 (by kernel_rfl) rfl #[.agg #[.slice A0_0 l0_0.length c0_0, .slice A0_1 l0_1.length c0_1, .slice A0_2 l0_2.length c0_2, .slice A0_3 l0_3.length c0_3], .agg #[.int .i64 ((rd_T23 t219 x12_1).f0), .int .i64 ((rd_T23 t219 x12_1).f1)]] (by rfl) rfl rfl argS ?_
        with_reducible refine (topiaryref14_Tag.calls k1 _ _ l0_0 _ _ l0_1 _ _ l0_2 _ _ l0_3 ((rd_T23 t219 x12_1).f0) ((rd_T23 t219 x12_1).f1) t223 true _ ?side1 ?side2 ?side3 ?side4 ?side5 ?side6 ?side7 ?side8 A37.out).mono ?_
        (case side1 => exact Kd.C_kept_now HR0_0.out (kS4 HK GW208 GW209 GW210 GW215))
        (case side2 => exact HC0_0.out)
        (case side3 => exact Kd.C_kept_now HR0_1.out (kS4 HK GW208 GW209 GW210 GW215))
        (case side4 => exact HC0_1.out)
        (case side5 => exact Kd.C_kept_now HR0_2.out (kS4 HK GW208 GW209 GW210 GW215))
        (case side6 => exact HC0_2.out)
        (case side7 => exact Kd.C_kept_now HR0_3.out (kS4 HK GW208 GW209 GW210 GW215))
        (case side8 => exact HC0_3.out)
        rintro e w43 ⟨rfl, hb⟩
        have HS4_ := (hb.cell (World.block_lt_of_cell? _ _ (hHeld.2.2.2.2.1))).trans (hHeld.2.2.2.2.1)
        have HS5_ := (hb.cell (World.block_lt_of_cell? _ _ (hHeld.2.2.2.2.2))).trans (hHeld.2.2.2.2.2)
        refine ⟨_, rfl, ?_⟩
        replace HO_3 := Aside0.mk (Kd.R_below (RS HO_3) hb)
        replace HO_11 := Aside0.mk (Kd.R_below (RS HO_11) hb)
        replace HO_216004 := Aside0.mk (Kd.R_below (RS HO_216004) hb)
        replace HO_216005 := Aside0.mk (Kd.N_below (NS HO_216005) hb)
        replace BK208 := bB BK208 hb
        replace BK209 := bB BK209 hb
        replace BK210 := bB BK210 hb
        replace BK215 := bB BK215 hb
        replace HK := Aside0.mk (Kept.below (S := (fun k_ => P3_ k_)) (kS4 HK GW208 GW209 GW210 GW215) hb)
        replace HB := Aside0.mk (below_step (bS4 HB GE208 GE209 GE210 GE215) hb)
        (try clear hb)
        refine hK.out _ _ ⟨(blk_cell BK208.out 0).trans rfl, (blk_cell BK208.out 1).trans rfl, (blk_cell BK208.out 2).trans rfl, (blk_cell BK208.out 3).trans rfl, HS4_, HS5_⟩ (fun hHeld => ?_)
        clear hK K
        refine normS (N := (some 46)) ?_
        refine pureT (i := 6) (N := some 40) HT_ ?_
        refine pureT (i := 7) (N := some 47) HT_ ?_
        refine pureT (i := 8) (N := some 48) HT_ ?_
        refine pureT (i := 9) (N := some 13) HT_ ?_
        refine pureT (i := 10) (N := some 14) HT_ ?_
        refine done_ (done_of HT_.out (by kernel_rfl)) ?_
        have p225 : 0 ≤ (x12_1 : Int) := of_decide_eq_true asmS
        have q225 : x12_1 < (t219.length : Int) := of_decide_eq_true asmS
        obtain ⟨ad225, e225, hx225_0, hx225_1⟩ := at_T23 (Kd.R_reads' HO_11.out).2.2 x12_1 p225 q225
        obtain rfl : ad222 = ad225 := (by injection e225)
        replace p225 := eq_true p225
        replace q225 := eq_true q225
        obtain ⟨Ao44, co44, eo44⟩ := Kd.R_slice HO_3.out
        subst eo44
        try go_wp2_with (first | (go_at_call 24; (try simp only [← List.length_take, ← List.length_drop]); (with_reducible refine (topiaryref01_Has.calls k1 _ _ x3_1 ((rd_T23 t219 x12_1).f0) ((rd_T23 t219 x12_1).f1) true _ ?side1 ?side2 A39.out).mono ?_); (case side1 => exact CS (Kd.R_reads' HO_3.out).2.2); (case side2 => exact (Kd.R_reads' HO_3.out).2.1); rintro e w45 ⟨rfl, hb⟩; replace HO_3 := Aside0.mk (Kd.R_below (RS HO_3) hb); replace HO_11 := Aside0.mk (Kd.R_below (RS HO_11) hb); replace HO_216004 := Aside0.mk (Kd.R_below (RS HO_216004) hb); replace HO_216005 := Aside0.mk (Kd.N_below (NS HO_216005) hb); replace BK208 := bB BK208 hb; replace BK209 := bB BK209 hb; replace BK210 := bB BK210 hb; replace BK215 := bB BK215 hb; replace HK := Aside0.mk (Kept.below (S := (fun k_ => P3_ k_)) (kS4 HK GW208 GW209 GW210 GW215) hb); replace HB := Aside0.mk (below_step (bS4 HB GE208 GE209 GE210 GE215) hb); (try clear hb)))
        go_roundg k1
        case measure => have := HK1.out; omega
        case rel => exact ⟨(x3_1), (wrap64 (x12_1 + 1)), (x216005_1), (u216005), (by first | rfl | (simp; done) | (simp [*]; done)), H', ⟨by have := HK1.out; omega⟩, ⟨by (with_reducible repeat (first | apply Kd.R_alloc | apply Kd.R_drewN | apply Kd.R_drew)); exact HO_3.out⟩, ⟨by (with_reducible repeat (first | apply Kd.R_alloc | apply Kd.R_drewN | apply Kd.R_drew)); exact HO_11.out⟩, ⟨by (with_reducible repeat (first | apply Kd.R_alloc | apply Kd.R_drewN | apply Kd.R_drew)); exact HO_216004.out⟩, ⟨by (with_reducible repeat (first | apply Kd.N_alloc | apply Kd.N_drewN | apply Kd.N_drew)); exact HO_216005.out⟩, ⟨by (with_reducible repeat (first | refine blk_drewN ?_ _ | refine blk_drew ?_ | refine blk_alloc ?_ _)); exact BK208.out⟩, ⟨by (with_reducible repeat (first | refine blk_drewN ?_ _ | refine blk_drew ?_ | refine blk_alloc ?_ _)); exact BK209.out⟩, ⟨by (with_reducible repeat (first | refine blk_drewN ?_ _ | refine blk_drew ?_ | refine blk_alloc ?_ _)); exact BK210.out⟩, ⟨by (with_reducible repeat (first | refine blk_drewN ?_ _ | refine blk_drew ?_ | refine blk_alloc ?_ _)); exact BK215.out⟩, ⟨kS4 HK GW208 GW209 GW210 GW215⟩, ⟨bS4 HB GE208 GE209 GE210 GE215⟩⟩
       ·replace c40 := Bool.eq_false_iff.mpr c40
        subst c40
        have H1 : (if (x3_1.length : Int) > 8192 then (topiaryref15_below.l0 k1 x3_1 t219 (wrap64 (x12_1 + 1)) l0_0 l0_1 l0_2 l0_3 a1_0 a1_1 a2 t211 t212 x216005_1) else ((topiaryref15_below.f k1 l0_0 l0_1 l0_2 l0_3 ((rd_T23 t219 x12_1).f0) ((rd_T23 t219 x12_1).f1) t223 x3_1).bind fun bt228 => (if x216005_1.length < 1466015503701 then (topiaryref15_below.l0 k1 bt228.2.2.2.2.2.2 t219 (wrap64 (x12_1 + 1)) l0_0 l0_1 l0_2 l0_3 a1_0 a1_1 a2 t211 t212 (x216005_1 ++ [(⟨(⟨bt228.1, bt228.2.1⟩ : S23), bt228.2.2.1, bt228.2.2.2.1, bt228.2.2.2.2.1, bt228.2.2.2.2.2.1⟩ : S27)])) else (none)))) = some (r1, r2, r3, r4, r5, r6, r7) := by rw [if_neg (show ¬ (false = true) by decide)] at H; exact H
        clear H
        have H := H1
        clear H1
        by_cases c46 : (x3_1.length : Int) > 8192
        ·rw [if_pos c46] at H
         have c46b0 : decide (8192 < (x3_1.length : Int)) = true := decide_eq_true c46
         have c46b1 : decide (8192 < x3_1.length) = true := decide_eq_true (by omega)
         clear c46
         have H' := Aside0.mk H
         clear H
         obtain ⟨Ao47, co47, eo47⟩ := Kd.R_slice HO_11.out
         subst eo47
         try go_wp2
         replace HO_3 := Aside0.mk (Kd.R_drew HO_3.out)
         replace HO_11 := Aside0.mk (Kd.R_drew HO_11.out)
         replace HO_216004 := Aside0.mk (Kd.R_drew HO_216004.out)
         replace HO_216005 := Aside0.mk (Kd.N_drew HO_216005.out)
         replace BK208 := Aside0.mk (blk_drew BK208.out)
         replace BK209 := Aside0.mk (blk_drew BK209.out)
         replace BK210 := Aside0.mk (blk_drew BK210.out)
         replace BK215 := Aside0.mk (blk_drew BK215.out)
         replace HK := Aside0.mk (Kept.drew HK.out)
         replace HB := Aside0.mk (below_drew1 HB.out)
         have p222 : 0 ≤ (x12_1 : Int) := of_decide_eq_true asmS
         have q222 : x12_1 < (t219.length : Int) := of_decide_eq_true asmS
         obtain ⟨ad222, e222, hx222_0, hx222_1⟩ := at_T23 (Kd.R_reads' HO_11.out).2.2 x12_1 p222 q222
         cases e222
         replace p222 := eq_true p222
         replace q222 := eq_true q222
         refine startS (n := 11) (S := fun w' => w'.cell? ⟨gb208, 0, none⟩ = some (.slice A0_0 l0_0.length c0_0) ∧ w'.cell? ⟨gb208, 1, none⟩ = some (.slice A0_1 l0_1.length c0_1) ∧ w'.cell? ⟨gb208, 2, none⟩ = some (.slice A0_2 l0_2.length c0_2) ∧ w'.cell? ⟨gb208, 3, none⟩ = some (.slice A0_3 l0_3.length c0_3) ∧ w'.cell? (ad222.add ((x12_1).toNat * 2)) = some (.int .i64 ((rd_T23 t219 x12_1).f0)) ∧ w'.cell? ⟨(ad222.add ((x12_1).toNat * 2)).block, (ad222.add ((x12_1).toNat * 2)).off + 1, none⟩ = some (.int .i64 ((rd_T23 t219 x12_1).f1))) (ds := []) ⟨(blk_cell BK208.out 0).trans rfl, (blk_cell BK208.out 1).trans rfl, (blk_cell BK208.out 2).trans rfl, (blk_cell BK208.out 3).trans rfl, hx222_0, hx222_1⟩ (fun hHeld => ?_); refine with_tabW topiaryref15_below.tab7 topiaryref15_below.bits7 (fun HT_ HW_ => ?_)
         generalize wr.drew = w48 at HO_3 HO_11 HO_216004 HO_216005 BK208 BK209 BK210 BK215 HK HB hx222_0 hx222_1 hHeld ⊢
         refine pureT (i := 1) (N := some 42) HT_ ?_
         refine pureT (i := 2) (N := some 43) HT_ ?_
         refine pureT (i := 3) (N := some 44) HT_ ?_
         refine takeS (i := 0) (N := some 41) (v := ?_) HT_ HW_ hHeld ?_ ?_
         rotate_left
         ·rintro w' ⟨s0, s1, s2, s3, s4, s5⟩
          go_simp
          with_reducible rfl
         refine normS (N := some 41) ?_
         refine takeS (i := 4) (N := some 45) (v := ?_) HT_ HW_ hHeld ?_ ?_
         rotate_left
         ·rintro w' ⟨s0, s1, s2, s3, s4, s5⟩
          go_simp
          with_reducible rfl
         refine normS (N := some 45) ?_
         refine oneS (i := 5) (N := some 46) HT_ (fun K hK => ?_)
         refine goes_ Try.func56 (by kernel_rfl) rfl #[.agg #[.slice A0_0 l0_0.length c0_0, .slice A0_1 l0_1.length c0_1, .slice A0_2 l0_2.length c0_2, .slice A0_3 l0_3.length c0_3], .agg #[.int .i64 ((rd_T23 t219 x12_1).f0), .int .i64 ((rd_T23 t219 x12_1).f1)]] (by rfl) rfl rfl argS ?_
         with_reducible refine (topiaryref14_Tag.calls k1 _ _ l0_0 _ _ l0_1 _ _ l0_2 _ _ l0_3 ((rd_T23 t219 x12_1).f0) ((rd_T23 t219 x12_1).f1) t223 true _ ?side1 ?side2 ?side3 ?side4 ?side5 ?side6 ?side7 ?side8 A37.out).mono ?_
         (case side1 => exact Kd.C_kept_now HR0_0.out (kS4 HK GW208 GW209 GW210 GW215))
         (case side2 => exact HC0_0.out)
         (case side3 => exact Kd.C_kept_now HR0_1.out (kS4 HK GW208 GW209 GW210 GW215))
         (case side4 => exact HC0_1.out)
         (case side5 => exact Kd.C_kept_now HR0_2.out (kS4 HK GW208 GW209 GW210 GW215))
         (case side6 => exact HC0_2.out)
         (case side7 => exact Kd.C_kept_now HR0_3.out (kS4 HK GW208 GW209 GW210 GW215))
         (case side8 => exact HC0_3.out)
         rintro e w49 ⟨rfl, hb⟩
         have HS4_ := (hb.cell (World.block_lt_of_cell? _ _ (hHeld.2.2.2.2.1))).trans (hHeld.2.2.2.2.1)
         have HS5_ := (hb.cell (World.block_lt_of_cell? _ _ (hHeld.2.2.2.2.2))).trans (hHeld.2.2.2.2.2)
         refine ⟨_, rfl, ?_⟩
         replace HO_3 := Aside0.mk (Kd.R_below (RS HO_3) hb)
         replace HO_11 := Aside0.mk (Kd.R_below (RS HO_11) hb)
         replace HO_216004 := Aside0.mk (Kd.R_below (RS HO_216004) hb)
         replace HO_216005 := Aside0.mk (Kd.N_below (NS HO_216005) hb)
         replace BK208 := bB BK208 hb
         replace BK209 := bB BK209 hb
         replace BK210 := bB BK210 hb
         replace BK215 := bB BK215 hb
         replace HK := Aside0.mk (Kept.below (S := (fun k_ => P3_ k_)) (kS4 HK GW208 GW209 GW210 GW215) hb)
         replace HB := Aside0.mk (below_step (bS4 HB GE208 GE209 GE210 GE215) hb)
         (try clear hb)
         refine hK.out _ _ ⟨(blk_cell BK208.out 0).trans rfl, (blk_cell BK208.out 1).trans rfl, (blk_cell BK208.out 2).trans rfl, (blk_cell BK208.out 3).trans rfl, HS4_, HS5_⟩ (fun hHeld => ?_)
         clear hK K
         refine normS (N := (some 46)) ?_
         refine pureT (i := 6) (N := some 40) HT_ ?_
         refine pureT (i := 7) (N := some 47) HT_ ?_
         refine pureT (i := 8) (N := some 48) HT_ ?_
         refine pureT (i := 9) (N := some 13) HT_ ?_
         refine pureT (i := 10) (N := some 14) HT_ ?_
         refine done_ (done_of HT_.out (by kernel_rfl)) ?_
         have p225 : 0 ≤ (x12_1 : Int) := of_decide_eq_true asmS
         have q225 : x12_1 < (t219.length : Int) := of_decide_eq_true asmS
         obtain ⟨ad225, e225, hx225_0, hx225_1⟩ := at_T23 (Kd.R_reads' HO_11.out).2.2 x12_1 p225 q225
         obtain rfl : ad222 = ad225 := (by injection e225)
         replace p225 := eq_true p225
         replace q225 := eq_true q225
         obtain ⟨Ao50, co50, eo50⟩ := Kd.R_slice HO_3.out
         subst eo50
         try go_wp2_with (first | (go_at_call 24; (try simp only [← List.length_take, ← List.length_drop]); (with_reducible refine (topiaryref01_Has.calls k1 _ _ x3_1 ((rd_T23 t219 x12_1).f0) ((rd_T23 t219 x12_1).f1) false _ ?side1 ?side2 A39.out).mono ?_); (case side1 => exact CS (Kd.R_reads' HO_3.out).2.2); (case side2 => exact (Kd.R_reads' HO_3.out).2.1); rintro e w51 ⟨rfl, hb⟩; replace HO_3 := Aside0.mk (Kd.R_below (RS HO_3) hb); replace HO_11 := Aside0.mk (Kd.R_below (RS HO_11) hb); replace HO_216004 := Aside0.mk (Kd.R_below (RS HO_216004) hb); replace HO_216005 := Aside0.mk (Kd.N_below (NS HO_216005) hb); replace BK208 := bB BK208 hb; replace BK209 := bB BK209 hb; replace BK210 := bB BK210 hb; replace BK215 := bB BK215 hb; replace HK := Aside0.mk (Kept.below (S := (fun k_ => P3_ k_)) (kS4 HK GW208 GW209 GW210 GW215) hb); replace HB := Aside0.mk (below_step (bS4 HB GE208 GE209 GE210 GE215) hb); (try clear hb)))
         go_roundg k1
         case measure => have := HK1.out; omega
         case rel => exact ⟨(x3_1), (wrap64 (x12_1 + 1)), (x216005_1), (u216005), (by first | rfl | (simp; done) | (simp [*]; done)), H', ⟨by have := HK1.out; omega⟩, ⟨by (with_reducible repeat (first | apply Kd.R_alloc | apply Kd.R_drewN | apply Kd.R_drew)); exact HO_3.out⟩, ⟨by (with_reducible repeat (first | apply Kd.R_alloc | apply Kd.R_drewN | apply Kd.R_drew)); exact HO_11.out⟩, ⟨by (with_reducible repeat (first | apply Kd.R_alloc | apply Kd.R_drewN | apply Kd.R_drew)); exact HO_216004.out⟩, ⟨by (with_reducible repeat (first | apply Kd.N_alloc | apply Kd.N_drewN | apply Kd.N_drew)); exact HO_216005.out⟩, ⟨by (with_reducible repeat (first | refine blk_drewN ?_ _ | refine blk_drew ?_ | refine blk_alloc ?_ _)); exact BK208.out⟩, ⟨by (with_reducible repeat (first | refine blk_drewN ?_ _ | refine blk_drew ?_ | refine blk_alloc ?_ _)); exact BK209.out⟩, ⟨by (with_reducible repeat (first | refine blk_drewN ?_ _ | refine blk_drew ?_ | refine blk_alloc ?_ _)); exact BK210.out⟩, ⟨by (with_reducible repeat (first | refine blk_drewN ?_ _ | refine blk_drew ?_ | refine blk_alloc ?_ _)); exact BK215.out⟩, ⟨kS4 HK GW208 GW209 GW210 GW215⟩, ⟨bS4 HB GE208 GE209 GE210 GE215⟩⟩
        ·rw [if_neg c46] at H
         have c46b0 : decide (8192 < (x3_1.length : Int)) = false := decide_eq_false c46
         have c46b1 : decide (8192 < x3_1.length) = false := decide_eq_false (by omega)
         clear c46
         replace H := Option.bind_eq_some_iff.mp H
         obtain ⟨⟨t228, t229, t230, t231, t232, t235, t238⟩, A520, H⟩ := H
         replace H : (if x216005_1.length < 1466015503701 then (topiaryref15_below.l0 k1 t238 t219 (wrap64 (x12_1 + 1)) l0_0 l0_1 l0_2 l0_3 a1_0 a1_1 a2 t211 t212 (x216005_1 ++ [(⟨(⟨t228, t229⟩ : S23), t230, t231, t232, t235⟩ : S27)])) else (none)) = some (r1, r2, r3, r4, r5, r6, r7) := H
         have A52 := Aside0.mk A520
         clear A520
         by_cases c53 : x216005_1.length < 1466015503701
         ·rw [if_pos c53] at H
          have LMc53 := Aside0.mk c53
          clear c53
          obtain ⟨y242, hy242⟩ : ∃ y_ : List (S27), y_ = (x216005_1 ++ [(⟨(⟨t228, t229⟩ : S23), t230, t231, t232, t235⟩ : S27)]) := ⟨_, rfl⟩
          replace H : (topiaryref15_below.l0 k1 t238 t219 (wrap64 (x12_1 + 1)) l0_0 l0_1 l0_2 l0_3 a1_0 a1_1 a2 t211 t212 y242) = some (r1, r2, r3, r4, r5, r6, r7) := by first | (rw [hy242]; with_reducible exact H) | (have H2_ := (Option.bind_some _ _).symm.trans H; rw [hy242]; with_reducible exact H2_) | (have H2_ := (Option.bind_some _ _).symm.trans H; with_reducible exact H2_) | with_reducible exact H | (rw [hy242]; exact H) | exact H
          have Ny242 := Aside0.mk hy242
          clear hy242
          have H' := Aside0.mk H
          clear H
          obtain ⟨Ao54, co54, eo54⟩ := Kd.R_slice HO_11.out
          subst eo54
          try go_wp2
          replace HO_3 := Aside0.mk (Kd.R_drew HO_3.out)
          replace HO_11 := Aside0.mk (Kd.R_drew HO_11.out)
          replace HO_216004 := Aside0.mk (Kd.R_drew HO_216004.out)
          replace HO_216005 := Aside0.mk (Kd.N_drew HO_216005.out)
          replace BK208 := Aside0.mk (blk_drew BK208.out)
          replace BK209 := Aside0.mk (blk_drew BK209.out)
          replace BK210 := Aside0.mk (blk_drew BK210.out)
          replace BK215 := Aside0.mk (blk_drew BK215.out)
          replace HK := Aside0.mk (Kept.drew HK.out)
          replace HB := Aside0.mk (below_drew1 HB.out)
          have p222 : 0 ≤ (x12_1 : Int) := of_decide_eq_true asmS
          have q222 : x12_1 < (t219.length : Int) := of_decide_eq_true asmS
          obtain ⟨ad222, e222, hx222_0, hx222_1⟩ := at_T23 (Kd.R_reads' HO_11.out).2.2 x12_1 p222 q222
          cases e222
          replace p222 := eq_true p222
          replace q222 := eq_true q222
          refine startS (n := 11) (S := fun w' => w'.cell? ⟨gb208, 0, none⟩ = some (.slice A0_0 l0_0.length c0_0) ∧ w'.cell? ⟨gb208, 1, none⟩ = some (.slice A0_1 l0_1.length c0_1) ∧ w'.cell? ⟨gb208, 2, none⟩ = some (.slice A0_2 l0_2.length c0_2) ∧ w'.cell? ⟨gb208, 3, none⟩ = some (.slice A0_3 l0_3.length c0_3) ∧ w'.cell? (ad222.add ((x12_1).toNat * 2)) = some (.int .i64 ((rd_T23 t219 x12_1).f0)) ∧ w'.cell? ⟨(ad222.add ((x12_1).toNat * 2)).block, (ad222.add ((x12_1).toNat * 2)).off + 1, none⟩ = some (.int .i64 ((rd_T23 t219 x12_1).f1))) (ds := []) ⟨(blk_cell BK208.out 0).trans rfl, (blk_cell BK208.out 1).trans rfl, (blk_cell BK208.out 2).trans rfl, (blk_cell BK208.out 3).trans rfl, hx222_0, hx222_1⟩ (fun hHeld => ?_); refine with_tabW topiaryref15_below.tab7 topiaryref15_below.bits7 (fun HT_ HW_ => ?_)
          generalize wr.drew = w55 at HO_3 HO_11 HO_216004 HO_216005 BK208 BK209 BK210 BK215 HK HB hx222_0 hx222_1 hHeld ⊢
          refine pureT (i := 1) (N := some 42) HT_ ?_
          refine pureT (i := 2) (N := some 43) HT_ ?_
          refine pureT (i := 3) (N := some 44) HT_ ?_
          refine takeS (i := 0) (N := some 41) (v := ?_) HT_ HW_ hHeld ?_ ?_
          rotate_left
          ·rintro w' ⟨s0, s1, s2, s3, s4, s5⟩
           go_simp
           with_reducible rfl
          refine normS (N := some 41) ?_
          refine takeS (i := 4) (N := some 45) (v := ?_) HT_ HW_ hHeld ?_ ?_
          rotate_left
          ·rintro w' ⟨s0, s1, s2, s3, s4, s5⟩
           go_simp
           with_reducible rfl
          refine normS (N := some 45) ?_
          refine oneS (i := 5) (N := some 46) HT_ (fun K hK => ?_)
          refine goes_ Try.func56 (by kernel_rfl) rfl #[.agg #[.slice A0_0 l0_0.length c0_0, .slice A0_1 l0_1.length c0_1, .slice A0_2 l0_2.length c0_2, .slice A0_3 l0_3.length c0_3], .agg #[.int .i64 ((rd_T23 t219 x12_1).f0), .int .i64 ((rd_T23 t219 x12_1).f1)]] (by rfl) rfl rfl argS ?_
          with_reducible refine (topiaryref14_Tag.calls k1 _ _ l0_0 _ _ l0_1 _ _ l0_2 _ _ l0_3 ((rd_T23 t219 x12_1).f0) ((rd_T23 t219 x12_1).f1) t223 true _ ?side1 ?side2 ?side3 ?side4 ?side5 ?side6 ?side7 ?side8 A37.out).mono ?_
          (case side1 => exact Kd.C_kept_now HR0_0.out (kS4 HK GW208 GW209 GW210 GW215))
          (case side2 => exact HC0_0.out)
          (case side3 => exact Kd.C_kept_now HR0_1.out (kS4 HK GW208 GW209 GW210 GW215))
          (case side4 => exact HC0_1.out)
          (case side5 => exact Kd.C_kept_now HR0_2.out (kS4 HK GW208 GW209 GW210 GW215))
          (case side6 => exact HC0_2.out)
          (case side7 => exact Kd.C_kept_now HR0_3.out (kS4 HK GW208 GW209 GW210 GW215))
          (case side8 => exact HC0_3.out)
          rintro e w56 ⟨rfl, hb⟩
          have HS4_ := (hb.cell (World.block_lt_of_cell? _ _ (hHeld.2.2.2.2.1))).trans (hHeld.2.2.2.2.1)
          have HS5_ := (hb.cell (World.block_lt_of_cell? _ _ (hHeld.2.2.2.2.2))).trans (hHeld.2.2.2.2.2)
          refine ⟨_, rfl, ?_⟩
          replace HO_3 := Aside0.mk (Kd.R_below (RS HO_3) hb)
          replace HO_11 := Aside0.mk (Kd.R_below (RS HO_11) hb)
          replace HO_216004 := Aside0.mk (Kd.R_below (RS HO_216004) hb)
          replace HO_216005 := Aside0.mk (Kd.N_below (NS HO_216005) hb)
          replace BK208 := bB BK208 hb
          replace BK209 := bB BK209 hb
          replace BK210 := bB BK210 hb
          replace BK215 := bB BK215 hb
          replace HK := Aside0.mk (Kept.below (S := (fun k_ => P3_ k_)) (kS4 HK GW208 GW209 GW210 GW215) hb)
          replace HB := Aside0.mk (below_step (bS4 HB GE208 GE209 GE210 GE215) hb)
          (try clear hb)
          refine hK.out _ _ ⟨(blk_cell BK208.out 0).trans rfl, (blk_cell BK208.out 1).trans rfl, (blk_cell BK208.out 2).trans rfl, (blk_cell BK208.out 3).trans rfl, HS4_, HS5_⟩ (fun hHeld => ?_)
          clear hK K
          refine normS (N := (some 46)) ?_
          refine pureT (i := 6) (N := some 40) HT_ ?_
          refine pureT (i := 7) (N := some 47) HT_ ?_
          refine pureT (i := 8) (N := some 48) HT_ ?_
          refine pureT (i := 9) (N := some 13) HT_ ?_
          refine pureT (i := 10) (N := some 14) HT_ ?_
          refine done_ (done_of HT_.out (by kernel_rfl)) ?_
          have p225 : 0 ≤ (x12_1 : Int) := of_decide_eq_true asmS
          have q225 : x12_1 < (t219.length : Int) := of_decide_eq_true asmS
          obtain ⟨ad225, e225, hx225_0, hx225_1⟩ := at_T23 (Kd.R_reads' HO_11.out).2.2 x12_1 p225 q225
          obtain rfl : ad222 = ad225 := (by injection e225)
          replace p225 := eq_true p225
          replace q225 := eq_true q225
          obtain ⟨Ao57, co57, eo57⟩ := Kd.R_slice HO_3.out
          subst eo57
          try go_wp2_with (first | (go_at_call 24; (try simp only [← List.length_take, ← List.length_drop]); (with_reducible refine (topiaryref01_Has.calls k1 _ _ x3_1 ((rd_T23 t219 x12_1).f0) ((rd_T23 t219 x12_1).f1) false _ ?side1 ?side2 A39.out).mono ?_); (case side1 => exact CS (Kd.R_reads' HO_3.out).2.2); (case side2 => exact (Kd.R_reads' HO_3.out).2.1); rintro e w58 ⟨rfl, hb⟩; replace HO_3 := Aside0.mk (Kd.R_below (RS HO_3) hb); replace HO_11 := Aside0.mk (Kd.R_below (RS HO_11) hb); replace HO_216004 := Aside0.mk (Kd.R_below (RS HO_216004) hb); replace HO_216005 := Aside0.mk (Kd.N_below (NS HO_216005) hb); replace BK208 := bB BK208 hb; replace BK209 := bB BK209 hb; replace BK210 := bB BK210 hb; replace BK215 := bB BK215 hb; replace HK := Aside0.mk (Kept.below (S := (fun k_ => P3_ k_)) (kS4 HK GW208 GW209 GW210 GW215) hb); replace HB := Aside0.mk (below_step (bS4 HB GE208 GE209 GE210 GE215) hb); (try clear hb)))
          replace HO_3 := Aside0.mk (Kd.R_drew HO_3.out)
          replace HO_11 := Aside0.mk (Kd.R_drew HO_11.out)
          replace HO_216004 := Aside0.mk (Kd.R_drew HO_216004.out)
          replace HO_216005 := Aside0.mk (Kd.N_drew HO_216005.out)
          replace BK208 := Aside0.mk (blk_drew BK208.out)
          replace BK209 := Aside0.mk (blk_drew BK209.out)
          replace BK210 := Aside0.mk (blk_drew BK210.out)
          replace BK215 := Aside0.mk (blk_drew BK215.out)
          replace HK := Aside0.mk (Kept.drew HK.out)
          replace HB := Aside0.mk (below_drew1 HB.out)
          have p227 : 0 ≤ (x12_1 : Int) := of_decide_eq_true asmS
          have q227 : x12_1 < (t219.length : Int) := of_decide_eq_true asmS
          obtain ⟨ad227, e227, hx227_0, hx227_1⟩ := at_T23 (Kd.R_reads' HO_11.out).2.2 x12_1 p227 q227
          obtain rfl : ad222 = ad227 := (by injection e227)
          replace p227 := eq_true p227
          replace q227 := eq_true q227
          refine startS (n := 14) (S := fun w' => w'.cell? ⟨gb208, 0, none⟩ = some (.slice A0_0 l0_0.length c0_0) ∧ w'.cell? ⟨gb208, 1, none⟩ = some (.slice A0_1 l0_1.length c0_1) ∧ w'.cell? ⟨gb208, 2, none⟩ = some (.slice A0_2 l0_2.length c0_2) ∧ w'.cell? ⟨gb208, 3, none⟩ = some (.slice A0_3 l0_3.length c0_3) ∧ w'.cell? (ad222.add ((x12_1).toNat * 2)) = some (.int .i64 ((rd_T23 t219 x12_1).f0)) ∧ w'.cell? ⟨(ad222.add ((x12_1).toNat * 2)).block, (ad222.add ((x12_1).toNat * 2)).off + 1, none⟩ = some (.int .i64 ((rd_T23 t219 x12_1).f1))) (ds := []) ⟨(blk_cell BK208.out 0).trans rfl, (blk_cell BK208.out 1).trans rfl, (blk_cell BK208.out 2).trans rfl, (blk_cell BK208.out 3).trans rfl, hx227_0, hx227_1⟩ (fun hHeld => ?_); refine with_tabW topiaryref15_below.tab9 topiaryref15_below.bits9 (fun HT_ HW_ => ?_)
          generalize w58.drew = w59 at HO_3 HO_11 HO_216004 HO_216005 BK208 BK209 BK210 BK215 HK HB hx227_0 hx227_1 hHeld ⊢
          refine pureT (i := 1) (N := some 66) HT_ ?_
          refine pureT (i := 2) (N := some 67) HT_ ?_
          refine pureT (i := 3) (N := some 68) HT_ ?_
          refine pureT (i := 5) (N := some 70) HT_ ?_
          refine pureT (i := 6) (N := some 71) HT_ ?_
          refine takeS (i := 0) (N := some 65) (v := ?_) HT_ HW_ hHeld ?_ ?_
          rotate_left
          ·rintro w' ⟨s0, s1, s2, s3, s4, s5⟩
           go_simp
           with_reducible rfl
          refine normS (N := some 65) ?_
          refine takeS (i := 4) (N := some 69) (v := ?_) HT_ HW_ hHeld ?_ ?_
          rotate_left
          ·rintro w' ⟨s0, s1, s2, s3, s4, s5⟩
           go_simp
           with_reducible rfl
          refine normS (N := some 69) ?_
          refine join_ (σ := Value × Value × Value × Nat) 2 #[true, true, true, true, true, true, true, true, true, true, true, true, false, false] (fun s_ => [(72, .tuple #[.agg #[.int .i64 t228, .int .i64 t229, .string t230, .string t231, s_.1, s_.2.1], s_.2.2.1]), (15, .pointer (some ⟨s_.2.2.2, 0, none⟩)), (64, .tuple #[.agg #[.int .i64 t228, .int .i64 t229, .string t230, .string t231, s_.1, s_.2.1], s_.2.2.1]), (73, .agg #[.int .i64 t228, .int .i64 t229, .string t230, .string t231, s_.1, s_.2.1]), (74, s_.2.2.1)]) (fun s_ w' => (w'.cell? ⟨gb208, 0, none⟩ = some (.slice A0_0 l0_0.length c0_0) ∧ w'.cell? ⟨gb208, 1, none⟩ = some (.slice A0_1 l0_1.length c0_1) ∧ w'.cell? ⟨gb208, 2, none⟩ = some (.slice A0_2 l0_2.length c0_2) ∧ w'.cell? ⟨gb208, 3, none⟩ = some (.slice A0_3 l0_3.length c0_3) ∧ w'.cell? (ad222.add ((x12_1).toNat * 2)) = some (.int .i64 ((rd_T23 t219 x12_1).f0)) ∧ w'.cell? ⟨(ad222.add ((x12_1).toNat * 2)).block, (ad222.add ((x12_1).toNat * 2)).off + 1, none⟩ = some (.int .i64 ((rd_T23 t219 x12_1).f1))) ∧ (Kd.R k99 99 w' w0.heap.size (fun k_ => (P3_ k_ ∨ w.heap.size ≤ k_) ∧ some k_ ≠ (.slice Ao18 t212.length co18 : Value).ownBlock) s_.1 t232) ∧ (Kd.N k27 27 w' w.heap.size (fun k_ => (P3_ k_ ∨ w.heap.size ≤ k_) ∧ some k_ ≠ (s_.1 : Value).ownBlock ∧ some k_ ≠ (s_.2.2.1 : Value).ownBlock ∧ some k_ ≠ (.slice (some ad222) t219.length co54 : Value).ownBlock ∧ some k_ ≠ (.slice Ao18 t212.length co18 : Value).ownBlock ∧ some k_ ≠ (u216005 : Value).ownBlock ∧ k_ ≠ gb208 ∧ k_ ≠ gb209 ∧ k_ ≠ gb210 ∧ k_ ≠ gb215 ∧ k_ ≠ s_.2.2.2) s_.2.1 t235) ∧ (Kd.R k23 23 w' w0.heap.size (fun k_ => (P3_ k_ ∨ w.heap.size ≤ k_) ∧ some k_ ≠ (.slice (some ad222) t219.length co54 : Value).ownBlock ∧ k_ ≠ gb209) s_.2.2.1 t238) ∧ (Kd.R k23 23 w' w0.heap.size (fun k_ => (P3_ k_ ∨ w.heap.size ≤ k_) ∧ some k_ ≠ (s_.2.2.1 : Value).ownBlock ∧ k_ ≠ gb209) (.slice (some ad222) t219.length co54) t219) ∧ (Kd.R k99 99 w' w0.heap.size (fun k_ => (P3_ k_ ∨ w.heap.size ≤ k_) ∧ some k_ ≠ (s_.1 : Value).ownBlock) (.slice Ao18 t212.length co18) t212) ∧ (Kd.N k27 27 w' w.heap.size (fun k_ => (P3_ k_ ∨ w.heap.size ≤ k_) ∧ some k_ ≠ (s_.1 : Value).ownBlock ∧ some k_ ≠ (s_.2.1 : Value).ownBlock ∧ some k_ ≠ (s_.2.2.1 : Value).ownBlock ∧ some k_ ≠ (.slice (some ad222) t219.length co54 : Value).ownBlock ∧ some k_ ≠ (.slice Ao18 t212.length co18 : Value).ownBlock ∧ k_ ≠ gb208 ∧ k_ ≠ gb209 ∧ k_ ≠ gb210 ∧ k_ ≠ gb215 ∧ k_ ≠ s_.2.2.2) u216005 x216005_1) ∧ (w'.heap[gb208]? = some (.cells #[.slice A0_0 l0_0.length c0_0, .slice A0_1 l0_1.length c0_1, .slice A0_2 l0_2.length c0_2, .slice A0_3 l0_3.length c0_3] 39 (0, 0))) ∧ (w'.heap[gb209]? = some (.cells #[.int .i64 a1_0, .int .i64 a1_1] 23 (0, 0))) ∧ (w'.heap[gb210]? = some (.cells #[.int .i64 0, .int .i64 0, .string (⟨#[]⟩ : ByteArray), .string (⟨#[]⟩ : ByteArray), .slice none 0 0, .slice none 0 0] 27 (0, 0))) ∧ (w'.heap[gb215]? = some (.cells #[.int .i64 a1_0, .int .i64 a1_1, .string a2, .string t211, .slice Ao18 t212.length co18, u216005] 27 (0, 0))) ∧ (w'.heap[s_.2.2.2]? = some (.cells #[.int .i64 0, .int .i64 0, .string (⟨#[]⟩ : ByteArray), .string (⟨#[]⟩ : ByteArray), .slice none 0 0, .slice none 0 0] 27 (0, 0))) ∧ (w.heap.size ≤ s_.2.2.2) ∧ (w0.heap.size ≤ s_.2.2.2) ∧ (gb208 ≠ s_.2.2.2) ∧ (s_.2.2.2 ≠ gb208) ∧ (gb209 ≠ s_.2.2.2) ∧ (s_.2.2.2 ≠ gb209) ∧ (gb210 ≠ s_.2.2.2) ∧ (s_.2.2.2 ≠ gb210) ∧ (gb215 ≠ s_.2.2.2) ∧ (s_.2.2.2 ≠ gb215) ∧ (Kept w w' (fun k_ => P3_ k_)) ∧ (Below w0.heap.size w0 w')) ?_ ?_
          rotate_left
          ·intro hCont
           refine twoS (i := 7) (j := 11) (Ni := some 72) (Nj := some 15) HT_ (fun K hK => ?_) (fun K hK => ?_)
           ·skip
            refine goes_ Try.func51 (by kernel_rfl) rfl #[.agg #[.slice A0_0 l0_0.length c0_0, .slice A0_1 l0_1.length c0_1, .slice A0_2 l0_2.length c0_2, .slice A0_3 l0_3.length c0_3], .agg #[.int .i64 ((rd_T23 t219 x12_1).f0), .int .i64 ((rd_T23 t219 x12_1).f1)], .string t223, .slice Ao57 x3_1.length co57] (by rfl) rfl rfl argS ?_
            with_reducible refine (ih k1 (by have := HK1.out; omega) _ _ l0_0 _ _ l0_1 _ _ l0_2 _ _ l0_3 ((rd_T23 t219 x12_1).f0) ((rd_T23 t219 x12_1).f1) t223 (fun k_ => some k_ = (.slice Ao57 x3_1.length co57 : Value).ownBlock) (.slice Ao57 x3_1.length co57) x3_1 t228 t229 t230 t231 t232 t235 t238 w0 _ ?side1 ?side2 ?side3 ?side4 ?side5 ?side6 ?side7 ?side8 ?side9 ?side10 A52.out).mono ?_
            (case side1 => repeat (first | (with_reducible first | exact HB.out | apply below_alloc | apply pw_below_drewN | apply below_drew1 | refine below_set ?_ GE208.out | refine below_set ?_ GE209.out | refine below_set ?_ GE210.out | refine below_set ?_ GE215.out) | exact HB.out))
            (case side2 => exact Kd.C_kept_call HR0_0.out (kS4 HK GW208 GW209 GW210 GW215) (fun k_ hs_ => (fun e_ => (HO_3.out.1 k_ e_.symm).1) hs_))
            (case side3 => exact HC0_0.out)
            (case side4 => exact Kd.C_kept_call HR0_1.out (kS4 HK GW208 GW209 GW210 GW215) (fun k_ hs_ => (fun e_ => (HO_3.out.1 k_ e_.symm).1) hs_))
            (case side5 => exact HC0_1.out)
            (case side6 => exact Kd.C_kept_call HR0_2.out (kS4 HK GW208 GW209 GW210 GW215) (fun k_ hs_ => (fun e_ => (HO_3.out.1 k_ e_.symm).1) hs_))
            (case side7 => exact HC0_2.out)
            (case side8 => exact Kd.C_kept_call HR0_3.out (kS4 HK GW208 GW209 GW210 GW215) (fun k_ hs_ => (fun e_ => (HO_3.out.1 k_ e_.symm).1) hs_))
            (case side9 => exact HC0_3.out)
            (case side10 => exact Kd.R_tight rfl HO_3.out)
            rintro e w60 ⟨v233, v236, v239, rfl, ho0, ho1, ho2, hb, hkp⟩
            have HS4_ := YtnkbgimihikhoaaW.PrintWords.cell_kept (hHeld.2.2.2.2.1) hkp (by first | (rw [add_block]; exact (fun hs_ => (((HO_11.out).1 _ rfl).2.1) hs_)) | (show ¬ _; simp only [add_block]; exact (fun hs_ => (((HO_11.out).1 _ rfl).2.1) hs_)) | exact (fun hs_ => (((HO_11.out).1 _ rfl).2.1) hs_))
            have HS5_ := YtnkbgimihikhoaaW.PrintWords.cell_kept (hHeld.2.2.2.2.2) hkp (by first | (rw [add_block]; exact (fun hs_ => (((HO_11.out).1 _ rfl).2.1) hs_)) | (show ¬ _; simp only [add_block]; exact (fun hs_ => (((HO_11.out).1 _ rfl).2.1) hs_)) | exact (fun hs_ => (((HO_11.out).1 _ rfl).2.1) hs_))
            refine ⟨_, rfl, ?_⟩
            have n0_ := Aside0.mk (Kd.R_mono (ok' := fun k_ => (P3_ k_ ∨ w.heap.size ≤ k_) ∧ k_ ≠ gb209 ∧ some k_ ≠ (v239 : Value).ownBlock) (Kd.R_keptB (HO_11.out) hkp (fun k_ hk_ hs_ => (hk_.2.1) hs_)) (fun k_ hk_ => ⟨hk_.1.1, hk_.1.2.2, fun e_ => Or.elim (ho2.1 k_ e_.symm) (fun hs_ => hk_.2.1 hs_) (fun hn_ => Nat.not_le.2 hk_.2.2 hn_)⟩))
            have n1_ := Aside0.mk (Kd.R_mono (ok' := fun k_ => (P3_ k_ ∨ w.heap.size ≤ k_) ∧ some k_ ≠ (v233 : Value).ownBlock) (Kd.R_keptB ((Kd.R_apart' HO_216004.out (Kd.R_typed HO_3.out) (by decide))) hkp (fun k_ hk_ hs_ => (hk_.2) hs_)) (fun k_ hk_ => ⟨hk_.1.1, fun e_ => Or.elim (ho0.1 k_ e_.symm) (fun hs_ => hk_.2.1 hs_) (fun hn_ => Nat.not_le.2 hk_.2.2 hn_)⟩))
            have n2_ := Aside0.mk (Kd.N_mono (ok' := fun k_ => (P3_ k_ ∨ w.heap.size ≤ k_) ∧ some k_ ≠ (.slice (some ad222) t219.length co54 : Value).ownBlock ∧ some k_ ≠ (.slice Ao18 t212.length co18 : Value).ownBlock ∧ k_ ≠ gb208 ∧ k_ ≠ gb209 ∧ k_ ≠ gb210 ∧ k_ ≠ gb215 ∧ some k_ ≠ (v233 : Value).ownBlock ∧ some k_ ≠ (v236 : Value).ownBlock ∧ some k_ ≠ (v239 : Value).ownBlock) (Kd.N_keptB (HO_216005.out) hkp (fun k_ hk_ hs_ => (hk_.2.1) hs_)) (fun k_ hk_ => ⟨hk_.1.1, hk_.1.2.2.1, hk_.1.2.2.2.1, hk_.1.2.2.2.2.1, hk_.1.2.2.2.2.2.1, hk_.1.2.2.2.2.2.2.1, hk_.1.2.2.2.2.2.2.2, fun e_ => Or.elim (ho0.1 k_ e_.symm) (fun hs_ => hk_.2.1 hs_) (fun hn_ => Nat.not_le.2 hk_.2.2 hn_), fun e_ => Nat.not_le.2 hk_.2.2 (Kd.N_base ho1 k_ e_.symm), fun e_ => Or.elim (ho2.1 k_ e_.symm) (fun hs_ => hk_.2.1 hs_) (fun hn_ => Nat.not_le.2 hk_.2.2 hn_)⟩))
            have n3_ := Aside0.mk (blk_kept (blkS BK208) hkp (fun hs_ => (fun e_ => (Kd.R_ne HO_3.out BK208.out (by decide)) e_) hs_))
            have n4_ := Aside0.mk (blk_kept (blkS BK209) hkp (fun hs_ => (fun e_ => (Kd.R_away HO_3.out (fun _ hk => hk.2.2)) e_) hs_))
            have n5_ := Aside0.mk (blk_kept (blkS BK210) hkp (fun hs_ => (fun e_ => (Kd.R_ne HO_3.out BK210.out (by decide)) e_) hs_))
            have n6_ := Aside0.mk (blk_kept (blkS BK215) hkp (fun hs_ => (fun e_ => (Kd.R_ne HO_3.out BK215.out (by decide)) e_) hs_))
            have n7_ := Aside0.mk (Kd.R_mono (ok' := fun k_ => (P3_ k_ ∨ w.heap.size ≤ k_) ∧ some k_ ≠ (.slice Ao18 t212.length co18 : Value).ownBlock) ho0 (fun k_ hk_ => ⟨Or.elim hk_ (fun hs_ => (HO_3.out.1 k_ (hs_).symm).1) (fun hn_ => (.inr (Nat.le_trans (kL4 HK GW208 GW209 GW210 GW215) hn_))), Or.elim hk_ (fun hs_ => fun e_ => ((((Kd.R_apart' HO_216004.out (Kd.R_typed HO_3.out) (by decide))).1 k_ e_.symm).2) hs_) (fun hn_ => (Kd.fresh' (Kd.R_lt (RS HO_216004)) k_ hn_))⟩))
            have n8_ := Aside0.mk (Kd.N_lower (Kd.N_mono (ok' := fun k_ => (P3_ k_ ∨ w.heap.size ≤ k_) ∧ some k_ ≠ (v233 : Value).ownBlock ∧ some k_ ≠ (v239 : Value).ownBlock ∧ some k_ ≠ (.slice (some ad222) t219.length co54 : Value).ownBlock ∧ some k_ ≠ (.slice Ao18 t212.length co18 : Value).ownBlock ∧ some k_ ≠ (u216005 : Value).ownBlock ∧ k_ ≠ gb208 ∧ k_ ≠ gb209 ∧ k_ ≠ gb210 ∧ k_ ≠ gb215) ho1 (fun k_ hk_ => ⟨Or.elim hk_.1 (fun hs_ => (HO_3.out.1 k_ (hs_).symm).1) (fun hn_ => (.inr (Nat.le_trans (kL4 HK GW208 GW209 GW210 GW215) hn_))), hk_.2.1, hk_.2.2, Or.elim hk_.1 (fun hs_ => fun e_ => (((HO_11.out).1 k_ e_.symm).2.1) hs_) (fun hn_ => (Kd.fresh' (Kd.R_lt (RS HO_11)) k_ hn_)), Or.elim hk_.1 (fun hs_ => fun e_ => ((((Kd.R_apart' HO_216004.out (Kd.R_typed HO_3.out) (by decide))).1 k_ e_.symm).2) hs_) (fun hn_ => (Kd.fresh' (Kd.R_lt (RS HO_216004)) k_ hn_)), Or.elim hk_.1 (fun hs_ => fun e_ => (((HO_216005.out).1 k_ e_.symm).2.1) hs_) (fun hn_ => (Kd.fresh' (Kd.N_lt (NS HO_216005)) k_ hn_)), Or.elim hk_.1 (fun hs_ => fun e_ => (Kd.R_ne HO_3.out BK208.out (by decide)) (by rw [← e_]; exact hs_)) (fun hn_ => (Kd.freshB (g := gb208) (o := .cells #[.slice A0_0 l0_0.length c0_0, .slice A0_1 l0_1.length c0_1, .slice A0_2 l0_2.length c0_2, .slice A0_3 l0_3.length c0_3] 39 (0, 0)) (blkS BK208) k_ hn_)), Or.elim hk_.1 (fun hs_ => fun e_ => (Kd.R_away HO_3.out (fun _ hk => hk.2.2)) (by rw [← e_]; exact hs_)) (fun hn_ => (Kd.freshB (g := gb209) (o := .cells #[.int .i64 a1_0, .int .i64 a1_1] 23 (0, 0)) (blkS BK209) k_ hn_)), Or.elim hk_.1 (fun hs_ => fun e_ => (Kd.R_ne HO_3.out BK210.out (by decide)) (by rw [← e_]; exact hs_)) (fun hn_ => (Kd.freshB (g := gb210) (o := .cells #[.int .i64 0, .int .i64 0, .string (⟨#[]⟩ : ByteArray), .string (⟨#[]⟩ : ByteArray), .slice none 0 0, .slice none 0 0] 27 (0, 0)) (blkS BK210) k_ hn_)), Or.elim hk_.1 (fun hs_ => fun e_ => (Kd.R_ne HO_3.out BK215.out (by decide)) (by rw [← e_]; exact hs_)) (fun hn_ => (Kd.freshB (g := gb215) (o := .cells #[.int .i64 a1_0, .int .i64 a1_1, .string a2, .string t211, .slice Ao18 t212.length co18, u216005] 27 (0, 0)) (blkS BK215) k_ hn_))⟩)) (kL4 HK GW208 GW209 GW210 GW215))
            have n9_ := Aside0.mk (Kd.R_mono (ok' := fun k_ => (P3_ k_ ∨ w.heap.size ≤ k_) ∧ some k_ ≠ (.slice (some ad222) t219.length co54 : Value).ownBlock ∧ k_ ≠ gb209) ho2 (fun k_ hk_ => ⟨Or.elim hk_ (fun hs_ => (HO_3.out.1 k_ (hs_).symm).1) (fun hn_ => (.inr (Nat.le_trans (kL4 HK GW208 GW209 GW210 GW215) hn_))), Or.elim hk_ (fun hs_ => fun e_ => (((HO_11.out).1 k_ e_.symm).2.1) hs_) (fun hn_ => (Kd.fresh' (Kd.R_lt (RS HO_11)) k_ hn_)), Or.elim hk_ (fun hs_ => fun e_ => (Kd.R_away HO_3.out (fun _ hk => hk.2.2)) (by rw [← e_]; exact hs_)) (fun hn_ => (Kd.freshB (g := gb209) (o := .cells #[.int .i64 a1_0, .int .i64 a1_1] 23 (0, 0)) (blkS BK209) k_ hn_))⟩))
            have n10_ := Aside0.mk (Kept.then_ (S := (fun k_ => P3_ k_)) (kS4 HK GW208 GW209 GW210 GW215) hkp (fun k_ hs_ => (fun e_ => (HO_3.out.1 k_ e_.symm).1) hs_))
            have n11_ := Aside0.mk (hb)
            clear HO_11 HO_216004 HO_216005 BK208 BK209 BK210 BK215 HK HB HO_3
            have HO_11 := n0_
            have HO_216004 := n1_
            have HO_216005 := n2_
            have BK208 := n3_
            have BK209 := n4_
            have BK210 := n5_
            have BK215 := n6_
            have HO234 := n7_
            have HO237 := n8_
            have HO240 := n9_
            have HK := n10_
            have HB := n11_
            clear n0_ n1_ n2_ n3_ n4_ n5_ n6_ n7_ n8_ n9_ n10_ n11_
            (try clear hb)
            (try clear hkp)
            (try clear ho0)
            (try clear ho1)
            (try clear ho2)
            refine hK.out _ _ ⟨(blk_cell BK208.out 0).trans rfl, (blk_cell BK208.out 1).trans rfl, (blk_cell BK208.out 2).trans rfl, (blk_cell BK208.out 3).trans rfl, HS4_, HS5_⟩ (fun hHeld => ?_)
            clear hK K
            refine normS (N := (some 72)) ?_
            refine pureT (i := 8) (N := some 64) HT_ ?_
            refine pureT (i := 9) (N := some 73) HT_ ?_
            refine pureT (i := 10) (N := some 74) HT_ ?_
            refine oneS (i := 11) (N := some 15) HT_ (fun K hK => ?_)
            refine box_step ?hg (N := 15) ?hd (cs := #[.int .i64 0, .int .i64 0, .string (⟨#[]⟩ : ByteArray), .string (⟨#[]⟩ : ByteArray), .slice none 0 0, .slice none 0 0]) (t := 27) ?hr ?_; (case hd => rfl); (case hg => rfl); (case hr => first | (go_simp; done) | (go_simp; rfl))
            intro gb241 hg w61 hbox hb
            have HS4_ := (hb.cell (World.block_lt_of_cell? _ _ (hHeld.2.2.2.2.1))).trans (hHeld.2.2.2.2.1)
            have HS5_ := (hb.cell (World.block_lt_of_cell? _ _ (hHeld.2.2.2.2.2))).trans (hHeld.2.2.2.2.2)
            have BK241 := Aside0.mk (hbox)
            have GW241 := Aside0.mk ((by rw [hg]; exact (kL4 HK GW208 GW209 GW210 GW215) : w.heap.size ≤ gb241))
            have GE241 := Aside0.mk ((by rw [hg]; exact (below_size (bS4 HB GE208 GE209 GE210 GE215)) : w0.heap.size ≤ gb241))
            have NB208_241 := nLt BK208 hg
            have NB241_208 := nGt BK208 hg
            have NB209_241 := nLt BK209 hg
            have NB241_209 := nGt BK209 hg
            have NB210_241 := nLt BK210 hg
            have NB241_210 := nGt BK210 hg
            have NB215_241 := nLt BK215 hg
            have NB241_215 := nGt BK215 hg
            replace HO_11 := Aside0.mk (Kd.R_below (RS HO_11) hb)
            replace HO_216004 := Aside0.mk (Kd.R_below (RS HO_216004) hb)
            replace HO_216005 := Aside0.mk (Kd.N_below (Kd.N_elderB (NS HO_216005) gb241 (Nat.le_of_eq hg.symm)) hb)
            replace HO234 := Aside0.mk (Kd.R_below (RS HO234) hb)
            replace HO237 := Aside0.mk (Kd.N_below (Kd.N_elderB (NS HO237) gb241 (Nat.le_of_eq hg.symm)) hb)
            replace HO240 := Aside0.mk (Kd.R_below (RS HO240) hb)
            replace BK208 := bB BK208 hb
            replace BK209 := bB BK209 hb
            replace BK210 := bB BK210 hb
            replace BK215 := bB BK215 hb
            replace HK := Aside0.mk (Kept.below (S := (fun k_ => P3_ k_)) (kS4 HK GW208 GW209 GW210 GW215) hb)
            replace HB := Aside0.mk (below_step (bS4 HB GE208 GE209 GE210 GE215) hb)
            clear hb hbox hg
            refine hK.out _ _ ⟨(blk_cell BK208.out 0).trans rfl, (blk_cell BK208.out 1).trans rfl, (blk_cell BK208.out 2).trans rfl, (blk_cell BK208.out 3).trans rfl, HS4_, HS5_⟩ (fun hHeld => ?_)
            clear hK K
            refine normS (N := (some 15)) ?_
            exact normJ (hCont (v233, v236, v239, gb241) _ ⟨hHeld, (RS HO234), (by (with_reducible repeat (first | apply Kd.N_alloc | apply Kd.N_drewN | apply Kd.N_drew)); exact Kd.N_mono HO237.out (fun _ hk => ⟨hk.1.1, ⟨hk.1.2.1, ⟨hk.1.2.2.1, ⟨hk.1.2.2.2.1, ⟨hk.1.2.2.2.2.1, ⟨hk.1.2.2.2.2.2.1, ⟨hk.1.2.2.2.2.2.2.1, ⟨hk.1.2.2.2.2.2.2.2.1, ⟨hk.1.2.2.2.2.2.2.2.2.1, ⟨hk.1.2.2.2.2.2.2.2.2.2, hk.2⟩⟩⟩⟩⟩⟩⟩⟩⟩⟩)), (RS HO240), (by (with_reducible repeat (first | apply Kd.R_alloc | apply Kd.R_drewN | apply Kd.R_drew)); exact Kd.R_mono HO_11.out (fun _ hk => ⟨hk.1, ⟨hk.2.2, hk.2.1⟩⟩)), (RS HO_216004), (by (with_reducible repeat (first | apply Kd.N_alloc | apply Kd.N_drewN | apply Kd.N_drew)); exact Kd.N_mono HO_216005.out (fun _ hk => ⟨hk.1.1, ⟨hk.1.2.2.2.2.2.2.2.1, ⟨hk.1.2.2.2.2.2.2.2.2.1, ⟨hk.1.2.2.2.2.2.2.2.2.2, ⟨hk.1.2.1, ⟨hk.1.2.2.1, ⟨hk.1.2.2.2.1, ⟨hk.1.2.2.2.2.1, ⟨hk.1.2.2.2.2.2.1, ⟨hk.1.2.2.2.2.2.2.1, hk.2⟩⟩⟩⟩⟩⟩⟩⟩⟩⟩)), (blkS BK208), (blkS BK209), (blkS BK210), (blkS BK215), (blkS BK241), GW241.out, GE241.out, NB208_241.out, NB241_208.out, NB209_241.out, NB241_209.out, NB210_241.out, NB241_210.out, NB215_241.out, NB241_215.out, (kS5 HK GW208 GW209 GW210 GW215 GW241), (bS5 HB GE208 GE209 GE210 GE215 GE241)⟩)
           ·skip
            refine box_step ?hg (N := 15) ?hd (cs := #[.int .i64 0, .int .i64 0, .string (⟨#[]⟩ : ByteArray), .string (⟨#[]⟩ : ByteArray), .slice none 0 0, .slice none 0 0]) (t := 27) ?hr ?_; (case hd => rfl); (case hg => rfl); (case hr => first | (go_simp; done) | (go_simp; rfl))
            intro gb241 hg w60 hbox hb
            have HS4_ := (hb.cell (World.block_lt_of_cell? _ _ (hHeld.2.2.2.2.1))).trans (hHeld.2.2.2.2.1)
            have HS5_ := (hb.cell (World.block_lt_of_cell? _ _ (hHeld.2.2.2.2.2))).trans (hHeld.2.2.2.2.2)
            have BK241 := Aside0.mk (hbox)
            have GW241 := Aside0.mk ((by rw [hg]; exact (kL4 HK GW208 GW209 GW210 GW215) : w.heap.size ≤ gb241))
            have GE241 := Aside0.mk ((by rw [hg]; exact (below_size (bS4 HB GE208 GE209 GE210 GE215)) : w0.heap.size ≤ gb241))
            have NB208_241 := nLt BK208 hg
            have NB241_208 := nGt BK208 hg
            have NB209_241 := nLt BK209 hg
            have NB241_209 := nGt BK209 hg
            have NB210_241 := nLt BK210 hg
            have NB241_210 := nGt BK210 hg
            have NB215_241 := nLt BK215 hg
            have NB241_215 := nGt BK215 hg
            replace HO_3 := Aside0.mk (Kd.R_below (RS HO_3) hb)
            replace HO_11 := Aside0.mk (Kd.R_below (RS HO_11) hb)
            replace HO_216004 := Aside0.mk (Kd.R_below (RS HO_216004) hb)
            replace HO_216005 := Aside0.mk (Kd.N_below (Kd.N_elderB (NS HO_216005) gb241 (Nat.le_of_eq hg.symm)) hb)
            replace BK208 := bB BK208 hb
            replace BK209 := bB BK209 hb
            replace BK210 := bB BK210 hb
            replace BK215 := bB BK215 hb
            replace HK := Aside0.mk (Kept.below (S := (fun k_ => P3_ k_)) (kS4 HK GW208 GW209 GW210 GW215) hb)
            replace HB := Aside0.mk (below_step (bS4 HB GE208 GE209 GE210 GE215) hb)
            clear hb hbox hg
            refine hK.out _ _ ⟨(blk_cell BK208.out 0).trans rfl, (blk_cell BK208.out 1).trans rfl, (blk_cell BK208.out 2).trans rfl, (blk_cell BK208.out 3).trans rfl, HS4_, HS5_⟩ (fun hHeld => ?_)
            clear hK K
            refine normS (N := (some 15)) ?_
            refine oneS (i := 7) (N := some 72) HT_ (fun K hK => ?_)
            refine goes_ Try.func51 (by kernel_rfl) rfl #[.agg #[.slice A0_0 l0_0.length c0_0, .slice A0_1 l0_1.length c0_1, .slice A0_2 l0_2.length c0_2, .slice A0_3 l0_3.length c0_3], .agg #[.int .i64 ((rd_T23 t219 x12_1).f0), .int .i64 ((rd_T23 t219 x12_1).f1)], .string t223, .slice Ao57 x3_1.length co57] (by rfl) rfl rfl argS ?_
            with_reducible refine (ih k1 (by have := HK1.out; omega) _ _ l0_0 _ _ l0_1 _ _ l0_2 _ _ l0_3 ((rd_T23 t219 x12_1).f0) ((rd_T23 t219 x12_1).f1) t223 (fun k_ => some k_ = (.slice Ao57 x3_1.length co57 : Value).ownBlock) (.slice Ao57 x3_1.length co57) x3_1 t228 t229 t230 t231 t232 t235 t238 w0 _ ?side1 ?side2 ?side3 ?side4 ?side5 ?side6 ?side7 ?side8 ?side9 ?side10 A52.out).mono ?_
            (case side1 => repeat (first | (with_reducible first | exact HB.out | apply below_alloc | apply pw_below_drewN | apply below_drew1 | refine below_set ?_ GE208.out | refine below_set ?_ GE209.out | refine below_set ?_ GE210.out | refine below_set ?_ GE215.out | refine below_set ?_ GE241.out) | exact HB.out))
            (case side2 => exact Kd.C_kept_call HR0_0.out (kS5 HK GW208 GW209 GW210 GW215 GW241) (fun k_ hs_ => (fun e_ => (HO_3.out.1 k_ e_.symm).1) hs_))
            (case side3 => exact HC0_0.out)
            (case side4 => exact Kd.C_kept_call HR0_1.out (kS5 HK GW208 GW209 GW210 GW215 GW241) (fun k_ hs_ => (fun e_ => (HO_3.out.1 k_ e_.symm).1) hs_))
            (case side5 => exact HC0_1.out)
            (case side6 => exact Kd.C_kept_call HR0_2.out (kS5 HK GW208 GW209 GW210 GW215 GW241) (fun k_ hs_ => (fun e_ => (HO_3.out.1 k_ e_.symm).1) hs_))
            (case side7 => exact HC0_2.out)
            (case side8 => exact Kd.C_kept_call HR0_3.out (kS5 HK GW208 GW209 GW210 GW215 GW241) (fun k_ hs_ => (fun e_ => (HO_3.out.1 k_ e_.symm).1) hs_))
            (case side9 => exact HC0_3.out)
            (case side10 => exact Kd.R_tight rfl HO_3.out)
            rintro e w61 ⟨v233, v236, v239, rfl, ho0, ho1, ho2, hb, hkp⟩
            have HS4_ := YtnkbgimihikhoaaW.PrintWords.cell_kept (hHeld.2.2.2.2.1) hkp (by first | (rw [add_block]; exact (fun hs_ => (((HO_11.out).1 _ rfl).2.1) hs_)) | (show ¬ _; simp only [add_block]; exact (fun hs_ => (((HO_11.out).1 _ rfl).2.1) hs_)) | exact (fun hs_ => (((HO_11.out).1 _ rfl).2.1) hs_))
            have HS5_ := YtnkbgimihikhoaaW.PrintWords.cell_kept (hHeld.2.2.2.2.2) hkp (by first | (rw [add_block]; exact (fun hs_ => (((HO_11.out).1 _ rfl).2.1) hs_)) | (show ¬ _; simp only [add_block]; exact (fun hs_ => (((HO_11.out).1 _ rfl).2.1) hs_)) | exact (fun hs_ => (((HO_11.out).1 _ rfl).2.1) hs_))
            refine ⟨_, rfl, ?_⟩
            have n0_ := Aside0.mk (Kd.R_mono (ok' := fun k_ => (P3_ k_ ∨ w.heap.size ≤ k_) ∧ k_ ≠ gb209 ∧ some k_ ≠ (v239 : Value).ownBlock) (Kd.R_keptB (HO_11.out) hkp (fun k_ hk_ hs_ => (hk_.2.1) hs_)) (fun k_ hk_ => ⟨hk_.1.1, hk_.1.2.2, fun e_ => Or.elim (ho2.1 k_ e_.symm) (fun hs_ => hk_.2.1 hs_) (fun hn_ => Nat.not_le.2 hk_.2.2 hn_)⟩))
            have n1_ := Aside0.mk (Kd.R_mono (ok' := fun k_ => (P3_ k_ ∨ w.heap.size ≤ k_) ∧ some k_ ≠ (v233 : Value).ownBlock) (Kd.R_keptB ((Kd.R_apart' HO_216004.out (Kd.R_typed HO_3.out) (by decide))) hkp (fun k_ hk_ hs_ => (hk_.2) hs_)) (fun k_ hk_ => ⟨hk_.1.1, fun e_ => Or.elim (ho0.1 k_ e_.symm) (fun hs_ => hk_.2.1 hs_) (fun hn_ => Nat.not_le.2 hk_.2.2 hn_)⟩))
            have n2_ := Aside0.mk (Kd.N_mono (ok' := fun k_ => (P3_ k_ ∨ w.heap.size ≤ k_) ∧ some k_ ≠ (.slice (some ad222) t219.length co54 : Value).ownBlock ∧ some k_ ≠ (.slice Ao18 t212.length co18 : Value).ownBlock ∧ k_ ≠ gb208 ∧ k_ ≠ gb209 ∧ k_ ≠ gb210 ∧ k_ ≠ gb215 ∧ k_ ≠ gb241 ∧ some k_ ≠ (v233 : Value).ownBlock ∧ some k_ ≠ (v236 : Value).ownBlock ∧ some k_ ≠ (v239 : Value).ownBlock) (Kd.N_keptB (HO_216005.out) hkp (fun k_ hk_ hs_ => (hk_.1.2.1) hs_)) (fun k_ hk_ => ⟨hk_.1.1.1, hk_.1.1.2.2.1, hk_.1.1.2.2.2.1, hk_.1.1.2.2.2.2.1, hk_.1.1.2.2.2.2.2.1, hk_.1.1.2.2.2.2.2.2.1, hk_.1.1.2.2.2.2.2.2.2, hk_.1.2, fun e_ => Or.elim (ho0.1 k_ e_.symm) (fun hs_ => hk_.2.1 hs_) (fun hn_ => Nat.not_le.2 hk_.2.2 hn_), fun e_ => Nat.not_le.2 hk_.2.2 (Kd.N_base ho1 k_ e_.symm), fun e_ => Or.elim (ho2.1 k_ e_.symm) (fun hs_ => hk_.2.1 hs_) (fun hn_ => Nat.not_le.2 hk_.2.2 hn_)⟩))
            have n3_ := Aside0.mk (blk_kept (blkS BK208) hkp (fun hs_ => (fun e_ => (Kd.R_ne HO_3.out BK208.out (by decide)) e_) hs_))
            have n4_ := Aside0.mk (blk_kept (blkS BK209) hkp (fun hs_ => (fun e_ => (Kd.R_away HO_3.out (fun _ hk => hk.2.2)) e_) hs_))
            have n5_ := Aside0.mk (blk_kept (blkS BK210) hkp (fun hs_ => (fun e_ => (Kd.R_ne HO_3.out BK210.out (by decide)) e_) hs_))
            have n6_ := Aside0.mk (blk_kept (blkS BK215) hkp (fun hs_ => (fun e_ => (Kd.R_ne HO_3.out BK215.out (by decide)) e_) hs_))
            have n7_ := Aside0.mk (blk_kept (blkS BK241) hkp (fun hs_ => (fun e_ => (Kd.R_ne HO_3.out BK241.out (by decide)) e_) hs_))
            have n8_ := Aside0.mk (Kd.R_mono (ok' := fun k_ => (P3_ k_ ∨ w.heap.size ≤ k_) ∧ some k_ ≠ (.slice Ao18 t212.length co18 : Value).ownBlock) ho0 (fun k_ hk_ => ⟨Or.elim hk_ (fun hs_ => (HO_3.out.1 k_ (hs_).symm).1) (fun hn_ => (.inr (Nat.le_trans (kL5 HK GW208 GW209 GW210 GW215 GW241) hn_))), Or.elim hk_ (fun hs_ => fun e_ => ((((Kd.R_apart' HO_216004.out (Kd.R_typed HO_3.out) (by decide))).1 k_ e_.symm).2) hs_) (fun hn_ => (Kd.fresh' (Kd.R_lt (RS HO_216004)) k_ hn_))⟩))
            have n9_ := Aside0.mk (Kd.N_lower (Kd.N_mono (ok' := fun k_ => (P3_ k_ ∨ w.heap.size ≤ k_) ∧ some k_ ≠ (v233 : Value).ownBlock ∧ some k_ ≠ (v239 : Value).ownBlock ∧ some k_ ≠ (.slice (some ad222) t219.length co54 : Value).ownBlock ∧ some k_ ≠ (.slice Ao18 t212.length co18 : Value).ownBlock ∧ some k_ ≠ (u216005 : Value).ownBlock ∧ k_ ≠ gb208 ∧ k_ ≠ gb209 ∧ k_ ≠ gb210 ∧ k_ ≠ gb215 ∧ k_ ≠ gb241) ho1 (fun k_ hk_ => ⟨Or.elim hk_.1 (fun hs_ => (HO_3.out.1 k_ (hs_).symm).1) (fun hn_ => (.inr (Nat.le_trans (kL5 HK GW208 GW209 GW210 GW215 GW241) hn_))), hk_.2.1, hk_.2.2, Or.elim hk_.1 (fun hs_ => fun e_ => (((HO_11.out).1 k_ e_.symm).2.1) hs_) (fun hn_ => (Kd.fresh' (Kd.R_lt (RS HO_11)) k_ hn_)), Or.elim hk_.1 (fun hs_ => fun e_ => ((((Kd.R_apart' HO_216004.out (Kd.R_typed HO_3.out) (by decide))).1 k_ e_.symm).2) hs_) (fun hn_ => (Kd.fresh' (Kd.R_lt (RS HO_216004)) k_ hn_)), Or.elim hk_.1 (fun hs_ => fun e_ => (((HO_216005.out).1 k_ e_.symm).1.2.1) hs_) (fun hn_ => (Kd.fresh' (Kd.N_lt (NS HO_216005)) k_ hn_)), Or.elim hk_.1 (fun hs_ => fun e_ => (Kd.R_ne HO_3.out BK208.out (by decide)) (by rw [← e_]; exact hs_)) (fun hn_ => (Kd.freshB (g := gb208) (o := .cells #[.slice A0_0 l0_0.length c0_0, .slice A0_1 l0_1.length c0_1, .slice A0_2 l0_2.length c0_2, .slice A0_3 l0_3.length c0_3] 39 (0, 0)) (blkS BK208) k_ hn_)), Or.elim hk_.1 (fun hs_ => fun e_ => (Kd.R_away HO_3.out (fun _ hk => hk.2.2)) (by rw [← e_]; exact hs_)) (fun hn_ => (Kd.freshB (g := gb209) (o := .cells #[.int .i64 a1_0, .int .i64 a1_1] 23 (0, 0)) (blkS BK209) k_ hn_)), Or.elim hk_.1 (fun hs_ => fun e_ => (Kd.R_ne HO_3.out BK210.out (by decide)) (by rw [← e_]; exact hs_)) (fun hn_ => (Kd.freshB (g := gb210) (o := .cells #[.int .i64 0, .int .i64 0, .string (⟨#[]⟩ : ByteArray), .string (⟨#[]⟩ : ByteArray), .slice none 0 0, .slice none 0 0] 27 (0, 0)) (blkS BK210) k_ hn_)), Or.elim hk_.1 (fun hs_ => fun e_ => (Kd.R_ne HO_3.out BK215.out (by decide)) (by rw [← e_]; exact hs_)) (fun hn_ => (Kd.freshB (g := gb215) (o := .cells #[.int .i64 a1_0, .int .i64 a1_1, .string a2, .string t211, .slice Ao18 t212.length co18, u216005] 27 (0, 0)) (blkS BK215) k_ hn_)), Or.elim hk_.1 (fun hs_ => fun e_ => (Kd.R_ne HO_3.out BK241.out (by decide)) (by rw [← e_]; exact hs_)) (fun hn_ => (Kd.freshB (g := gb241) (o := .cells #[.int .i64 0, .int .i64 0, .string (⟨#[]⟩ : ByteArray), .string (⟨#[]⟩ : ByteArray), .slice none 0 0, .slice none 0 0] 27 (0, 0)) (blkS BK241) k_ hn_))⟩)) (kL5 HK GW208 GW209 GW210 GW215 GW241))
            have n10_ := Aside0.mk (Kd.R_mono (ok' := fun k_ => (P3_ k_ ∨ w.heap.size ≤ k_) ∧ some k_ ≠ (.slice (some ad222) t219.length co54 : Value).ownBlock ∧ k_ ≠ gb209) ho2 (fun k_ hk_ => ⟨Or.elim hk_ (fun hs_ => (HO_3.out.1 k_ (hs_).symm).1) (fun hn_ => (.inr (Nat.le_trans (kL5 HK GW208 GW209 GW210 GW215 GW241) hn_))), Or.elim hk_ (fun hs_ => fun e_ => (((HO_11.out).1 k_ e_.symm).2.1) hs_) (fun hn_ => (Kd.fresh' (Kd.R_lt (RS HO_11)) k_ hn_)), Or.elim hk_ (fun hs_ => fun e_ => (Kd.R_away HO_3.out (fun _ hk => hk.2.2)) (by rw [← e_]; exact hs_)) (fun hn_ => (Kd.freshB (g := gb209) (o := .cells #[.int .i64 a1_0, .int .i64 a1_1] 23 (0, 0)) (blkS BK209) k_ hn_))⟩))
            have n11_ := Aside0.mk (Kept.then_ (S := (fun k_ => P3_ k_)) (kS5 HK GW208 GW209 GW210 GW215 GW241) hkp (fun k_ hs_ => (fun e_ => (HO_3.out.1 k_ e_.symm).1) hs_))
            have n12_ := Aside0.mk (hb)
            clear HO_11 HO_216004 HO_216005 BK208 BK209 BK210 BK215 BK241 HK HB HO_3
            have HO_11 := n0_
            have HO_216004 := n1_
            have HO_216005 := n2_
            have BK208 := n3_
            have BK209 := n4_
            have BK210 := n5_
            have BK215 := n6_
            have BK241 := n7_
            have HO234 := n8_
            have HO237 := n9_
            have HO240 := n10_
            have HK := n11_
            have HB := n12_
            clear n0_ n1_ n2_ n3_ n4_ n5_ n6_ n7_ n8_ n9_ n10_ n11_ n12_
            (try clear hb)
            (try clear hkp)
            (try clear ho0)
            (try clear ho1)
            (try clear ho2)
            refine hK.out _ _ ⟨(blk_cell BK208.out 0).trans rfl, (blk_cell BK208.out 1).trans rfl, (blk_cell BK208.out 2).trans rfl, (blk_cell BK208.out 3).trans rfl, HS4_, HS5_⟩ (fun hHeld => ?_)
            clear hK K
            refine normS (N := (some 72)) ?_
            refine pureT (i := 8) (N := some 64) HT_ ?_
            refine pureT (i := 9) (N := some 73) HT_ ?_
            refine pureT (i := 10) (N := some 74) HT_ ?_
            exact normJ (hCont (v233, v236, v239, gb241) _ ⟨hHeld, (RS HO234), (NS HO237), (RS HO240), (by (with_reducible repeat (first | apply Kd.R_alloc | apply Kd.R_drewN | apply Kd.R_drew)); exact Kd.R_mono HO_11.out (fun _ hk => ⟨hk.1, ⟨hk.2.2, hk.2.1⟩⟩)), (RS HO_216004), (by (with_reducible repeat (first | apply Kd.N_alloc | apply Kd.N_drewN | apply Kd.N_drew)); exact Kd.N_mono HO_216005.out (fun _ hk => ⟨hk.1, ⟨hk.2.2.2.2.2.2.2.2.1, ⟨hk.2.2.2.2.2.2.2.2.2.1, ⟨hk.2.2.2.2.2.2.2.2.2.2, ⟨hk.2.1, ⟨hk.2.2.1, ⟨hk.2.2.2.1, ⟨hk.2.2.2.2.1, ⟨hk.2.2.2.2.2.1, ⟨hk.2.2.2.2.2.2.1, hk.2.2.2.2.2.2.2.1⟩⟩⟩⟩⟩⟩⟩⟩⟩⟩)), (blkS BK208), (blkS BK209), (blkS BK210), (blkS BK215), (blkS BK241), GW241.out, GE241.out, NB208_241.out, NB241_208.out, NB209_241.out, NB241_209.out, NB210_241.out, NB241_210.out, NB215_241.out, NB241_215.out, (kS5 HK GW208 GW209 GW210 GW215 GW241), (bS5 HB GE208 GE209 GE210 GE215 GE241)⟩)
          clear HO_3 HO_11 HO_216004 HO_216005 BK208 BK209 BK210 BK215 HK HB
          rintro ⟨v233, v236, v239, gb241⟩ w62 ⟨hHeld, h0_, h1_, h2_, h3_, h4_, h5_, h6_, h7_, h8_, h9_, h10_, h11_, h12_, h13_, h14_, h15_, h16_, h17_, h18_, h19_, h20_, h21_, h22_⟩
          have HO234 := Aside0.mk h0_; have HO237 := Aside0.mk h1_; have HO240 := Aside0.mk h2_; have HO_11 := Aside0.mk h3_; have HO_216004 := Aside0.mk h4_; have HO_216005 := Aside0.mk h5_; have BK208 := Aside0.mk h6_; have BK209 := Aside0.mk h7_; have BK210 := Aside0.mk h8_; have BK215 := Aside0.mk h9_; have BK241 := Aside0.mk h10_; have GW241 := Aside0.mk h11_; have GE241 := Aside0.mk h12_; have NB208_241 := Aside0.mk h13_; have NB241_208 := Aside0.mk h14_; have NB209_241 := Aside0.mk h15_; have NB241_209 := Aside0.mk h16_; have NB210_241 := Aside0.mk h17_; have NB241_210 := Aside0.mk h18_; have NB215_241 := Aside0.mk h19_; have NB241_215 := Aside0.mk h20_; have HK := Aside0.mk h21_; have HB := Aside0.mk h22_
          clear h0_ h1_ h2_ h3_ h4_ h5_ h6_ h7_ h8_ h9_ h10_ h11_ h12_ h13_ h14_ h15_ h16_ h17_ h18_ h19_ h20_ h21_ h22_
          obtain ⟨Ao67, co67, eo67⟩ := Kd.R_slice HO234.out
          (first | subst eo67 | (injection eo67 with f1_ f2_ f3_; have f4_ := f1_.symm; have f5_ := f3_.symm; clear f1_ f2_ f3_; subst f4_; subst f5_))
          obtain ⟨Ao69, co69, eo69⟩ := Kd.N_slice HO237.out
          (first | subst eo69 | (injection eo69 with f1_ f2_ f3_; have f4_ := f1_.symm; have f5_ := f3_.symm; clear f1_ f2_ f3_; subst f4_; subst f5_))
          refine normP ?_
          refine oneS (i := 12) (N := none) HT_ (fun K hK => ?_)
          have hs63 : w62.cell? ⟨gb241, 0, none⟩ = some (.int .i64 0) := (blk_cell BK241.out 0).trans rfl
          have hfs63 := blk_frozen BK241.out 0
          have hns63_0 := NB208_241.out
          have hns63_1 := NB209_241.out
          have hns63_2 := NB210_241.out
          have hns63_3 := NB215_241.out
          have hms63_0 := NB241_208.out
          have hms63_1 := NB241_209.out
          have hms63_2 := NB241_210.out
          have hms63_3 := NB241_215.out
          have hs64 : w62.cell? ⟨gb241, 1, none⟩ = some (.int .i64 0) := (blk_cell BK241.out 1).trans rfl
          have hfs64 := blk_frozen BK241.out 1
          have hns64_0 := NB208_241.out
          have hns64_1 := NB209_241.out
          have hns64_2 := NB210_241.out
          have hns64_3 := NB215_241.out
          have hms64_0 := NB241_208.out
          have hms64_1 := NB241_209.out
          have hms64_2 := NB241_210.out
          have hms64_3 := NB241_215.out
          have hs65 : w62.cell? ⟨gb241, 2, none⟩ = some (.string (⟨#[]⟩ : ByteArray)) := (blk_cell BK241.out 2).trans rfl
          have hfs65 := blk_frozen BK241.out 2
          have hns65_0 := NB208_241.out
          have hns65_1 := NB209_241.out
          have hns65_2 := NB210_241.out
          have hns65_3 := NB215_241.out
          have hms65_0 := NB241_208.out
          have hms65_1 := NB241_209.out
          have hms65_2 := NB241_210.out
          have hms65_3 := NB241_215.out
          have hs66 : w62.cell? ⟨gb241, 3, none⟩ = some (.string (⟨#[]⟩ : ByteArray)) := (blk_cell BK241.out 3).trans rfl
          have hfs66 := blk_frozen BK241.out 3
          have hns66_0 := NB208_241.out
          have hns66_1 := NB209_241.out
          have hns66_2 := NB210_241.out
          have hns66_3 := NB215_241.out
          have hms66_0 := NB241_208.out
          have hms66_1 := NB241_209.out
          have hms66_2 := NB241_210.out
          have hms66_3 := NB241_215.out
          have hs68 : w62.cell? ⟨gb241, 4, none⟩ = some (.slice none 0 0) := (blk_cell BK241.out 4).trans rfl
          have hfs68 := blk_frozen BK241.out 4
          have hns68_0 := NB208_241.out
          have hns68_1 := NB209_241.out
          have hns68_2 := NB210_241.out
          have hns68_3 := NB215_241.out
          have hms68_0 := NB241_208.out
          have hms68_1 := NB241_209.out
          have hms68_2 := NB241_210.out
          have hms68_3 := NB241_215.out
          have hs70 : w62.cell? ⟨gb241, 5, none⟩ = some (.slice none 0 0) := (blk_cell BK241.out 5).trans rfl
          have hfs70 := blk_frozen BK241.out 5
          have hns70_0 := NB208_241.out
          have hns70_1 := NB209_241.out
          have hns70_2 := NB210_241.out
          have hns70_3 := NB215_241.out
          have hms70_0 := NB241_208.out
          have hms70_1 := NB241_209.out
          have hms70_2 := NB241_210.out
          have hms70_3 := NB241_215.out
          refine skip_ (w1 := ?_) (by rfl) rfl ?_ ?_
          rotate_left
          ·go_simp
           rfl
          refine hK.out _ _ ⟨((cell_far (p := ⟨gb241, _, none⟩) NB208_241.out _).trans (((cell_far (p := ⟨gb241, _, none⟩) NB208_241.out _).trans (((cell_far (p := ⟨gb241, _, none⟩) NB208_241.out _).trans (((cell_far (p := ⟨gb241, _, none⟩) NB208_241.out _).trans (((cell_far (p := ⟨gb241, _, none⟩) NB208_241.out _).trans (((cell_far (p := ⟨gb241, _, none⟩) NB208_241.out _).trans (hHeld.1)))))))))))), ((cell_far (p := ⟨gb241, _, none⟩) NB208_241.out _).trans (((cell_far (p := ⟨gb241, _, none⟩) NB208_241.out _).trans (((cell_far (p := ⟨gb241, _, none⟩) NB208_241.out _).trans (((cell_far (p := ⟨gb241, _, none⟩) NB208_241.out _).trans (((cell_far (p := ⟨gb241, _, none⟩) NB208_241.out _).trans (((cell_far (p := ⟨gb241, _, none⟩) NB208_241.out _).trans (hHeld.2.1)))))))))))), ((cell_far (p := ⟨gb241, _, none⟩) NB208_241.out _).trans (((cell_far (p := ⟨gb241, _, none⟩) NB208_241.out _).trans (((cell_far (p := ⟨gb241, _, none⟩) NB208_241.out _).trans (((cell_far (p := ⟨gb241, _, none⟩) NB208_241.out _).trans (((cell_far (p := ⟨gb241, _, none⟩) NB208_241.out _).trans (((cell_far (p := ⟨gb241, _, none⟩) NB208_241.out _).trans (hHeld.2.2.1)))))))))))), ((cell_far (p := ⟨gb241, _, none⟩) NB208_241.out _).trans (((cell_far (p := ⟨gb241, _, none⟩) NB208_241.out _).trans (((cell_far (p := ⟨gb241, _, none⟩) NB208_241.out _).trans (((cell_far (p := ⟨gb241, _, none⟩) NB208_241.out _).trans (((cell_far (p := ⟨gb241, _, none⟩) NB208_241.out _).trans (((cell_far (p := ⟨gb241, _, none⟩) NB208_241.out _).trans (hHeld.2.2.2.1)))))))))))), ((cell_far (p := ⟨gb241, _, none⟩) (by first | exact Kd.own_blk (Kd.R_ne HO_11.out BK241.out (by decide)) | (rw [add_block]; exact Kd.own_blk (Kd.R_ne HO_11.out BK241.out (by decide))) | (show (Addr.add _ _).block ≠ _; rw [add_block]; exact Kd.own_blk (Kd.R_ne HO_11.out BK241.out (by decide))) | (dsimp only; exact Kd.own_blk (Kd.R_ne HO_11.out BK241.out (by decide)))) _).trans (((cell_far (p := ⟨gb241, _, none⟩) (by first | exact Kd.own_blk (Kd.R_ne HO_11.out BK241.out (by decide)) | (rw [add_block]; exact Kd.own_blk (Kd.R_ne HO_11.out BK241.out (by decide))) | (show (Addr.add _ _).block ≠ _; rw [add_block]; exact Kd.own_blk (Kd.R_ne HO_11.out BK241.out (by decide))) | (dsimp only; exact Kd.own_blk (Kd.R_ne HO_11.out BK241.out (by decide)))) _).trans (((cell_far (p := ⟨gb241, _, none⟩) (by first | exact Kd.own_blk (Kd.R_ne HO_11.out BK241.out (by decide)) | (rw [add_block]; exact Kd.own_blk (Kd.R_ne HO_11.out BK241.out (by decide))) | (show (Addr.add _ _).block ≠ _; rw [add_block]; exact Kd.own_blk (Kd.R_ne HO_11.out BK241.out (by decide))) | (dsimp only; exact Kd.own_blk (Kd.R_ne HO_11.out BK241.out (by decide)))) _).trans (((cell_far (p := ⟨gb241, _, none⟩) (by first | exact Kd.own_blk (Kd.R_ne HO_11.out BK241.out (by decide)) | (rw [add_block]; exact Kd.own_blk (Kd.R_ne HO_11.out BK241.out (by decide))) | (show (Addr.add _ _).block ≠ _; rw [add_block]; exact Kd.own_blk (Kd.R_ne HO_11.out BK241.out (by decide))) | (dsimp only; exact Kd.own_blk (Kd.R_ne HO_11.out BK241.out (by decide)))) _).trans (((cell_far (p := ⟨gb241, _, none⟩) (by first | exact Kd.own_blk (Kd.R_ne HO_11.out BK241.out (by decide)) | (rw [add_block]; exact Kd.own_blk (Kd.R_ne HO_11.out BK241.out (by decide))) | (show (Addr.add _ _).block ≠ _; rw [add_block]; exact Kd.own_blk (Kd.R_ne HO_11.out BK241.out (by decide))) | (dsimp only; exact Kd.own_blk (Kd.R_ne HO_11.out BK241.out (by decide)))) _).trans (((cell_far (p := ⟨gb241, _, none⟩) (by first | exact Kd.own_blk (Kd.R_ne HO_11.out BK241.out (by decide)) | (rw [add_block]; exact Kd.own_blk (Kd.R_ne HO_11.out BK241.out (by decide))) | (show (Addr.add _ _).block ≠ _; rw [add_block]; exact Kd.own_blk (Kd.R_ne HO_11.out BK241.out (by decide))) | (dsimp only; exact Kd.own_blk (Kd.R_ne HO_11.out BK241.out (by decide)))) _).trans (hHeld.2.2.2.2.1)))))))))))), ((cell_far (p := ⟨gb241, _, none⟩) (by first | exact Kd.own_blk (Kd.R_ne HO_11.out BK241.out (by decide)) | (rw [add_block]; exact Kd.own_blk (Kd.R_ne HO_11.out BK241.out (by decide))) | (show (Addr.add _ _).block ≠ _; rw [add_block]; exact Kd.own_blk (Kd.R_ne HO_11.out BK241.out (by decide))) | (dsimp only; exact Kd.own_blk (Kd.R_ne HO_11.out BK241.out (by decide)))) _).trans (((cell_far (p := ⟨gb241, _, none⟩) (by first | exact Kd.own_blk (Kd.R_ne HO_11.out BK241.out (by decide)) | (rw [add_block]; exact Kd.own_blk (Kd.R_ne HO_11.out BK241.out (by decide))) | (show (Addr.add _ _).block ≠ _; rw [add_block]; exact Kd.own_blk (Kd.R_ne HO_11.out BK241.out (by decide))) | (dsimp only; exact Kd.own_blk (Kd.R_ne HO_11.out BK241.out (by decide)))) _).trans (((cell_far (p := ⟨gb241, _, none⟩) (by first | exact Kd.own_blk (Kd.R_ne HO_11.out BK241.out (by decide)) | (rw [add_block]; exact Kd.own_blk (Kd.R_ne HO_11.out BK241.out (by decide))) | (show (Addr.add _ _).block ≠ _; rw [add_block]; exact Kd.own_blk (Kd.R_ne HO_11.out BK241.out (by decide))) | (dsimp only; exact Kd.own_blk (Kd.R_ne HO_11.out BK241.out (by decide)))) _).trans (((cell_far (p := ⟨gb241, _, none⟩) (by first | exact Kd.own_blk (Kd.R_ne HO_11.out BK241.out (by decide)) | (rw [add_block]; exact Kd.own_blk (Kd.R_ne HO_11.out BK241.out (by decide))) | (show (Addr.add _ _).block ≠ _; rw [add_block]; exact Kd.own_blk (Kd.R_ne HO_11.out BK241.out (by decide))) | (dsimp only; exact Kd.own_blk (Kd.R_ne HO_11.out BK241.out (by decide)))) _).trans (((cell_far (p := ⟨gb241, _, none⟩) (by first | exact Kd.own_blk (Kd.R_ne HO_11.out BK241.out (by decide)) | (rw [add_block]; exact Kd.own_blk (Kd.R_ne HO_11.out BK241.out (by decide))) | (show (Addr.add _ _).block ≠ _; rw [add_block]; exact Kd.own_blk (Kd.R_ne HO_11.out BK241.out (by decide))) | (dsimp only; exact Kd.own_blk (Kd.R_ne HO_11.out BK241.out (by decide)))) _).trans (((cell_far (p := ⟨gb241, _, none⟩) (by first | exact Kd.own_blk (Kd.R_ne HO_11.out BK241.out (by decide)) | (rw [add_block]; exact Kd.own_blk (Kd.R_ne HO_11.out BK241.out (by decide))) | (show (Addr.add _ _).block ≠ _; rw [add_block]; exact Kd.own_blk (Kd.R_ne HO_11.out BK241.out (by decide))) | (dsimp only; exact Kd.own_blk (Kd.R_ne HO_11.out BK241.out (by decide)))) _).trans (hHeld.2.2.2.2.2))))))))))))⟩ (fun hHeld => ?_)
          clear hK K
          refine pureT (i := 13) (N := some 16) HT_ ?_
          refine done_ (done_of HT_.out (by kernel_rfl)) ?_
          have n0_ : Aside0 (Kd.R k23 23 ((((((w62.setCell ⟨gb241, 0, none⟩ (.int .i64 t228)).setCell ⟨gb241, 1, none⟩ (.int .i64 t229)).setCell ⟨gb241, 2, none⟩ (.string t230)).setCell ⟨gb241, 3, none⟩ (.string t231)).setCell ⟨gb241, 4, none⟩ (.slice Ao67 t232.length co67)).setCell ⟨gb241, 5, none⟩ (.slice Ao69 t235.length co69)) w0.heap.size (fun k_ => (P3_ k_ ∨ w.heap.size ≤ k_) ∧ some k_ ≠ (v239 : Value).ownBlock ∧ k_ ≠ gb209) (.slice (some ad222) t219.length co54) t219) := ⟨by (with_reducible repeat (first | apply Kd.R_alloc | apply Kd.R_drewN | apply Kd.R_drew)); exact Kd.R_mono (Kd.R_far (p := ⟨gb241, 5, none⟩) (Kd.R_far (p := ⟨gb241, 4, none⟩) (Kd.R_far (p := ⟨gb241, 3, none⟩) (Kd.R_far (p := ⟨gb241, 2, none⟩) (Kd.R_far (p := ⟨gb241, 1, none⟩) (Kd.R_far (p := ⟨gb241, 0, none⟩) (Kd.R_types HO_11.out BK241.out (by decide)) (fun _ hk => hk.2) (.int .i64 t228)) (fun _ hk => hk.2) (.int .i64 t229)) (fun _ hk => hk.2) (.string t230)) (fun _ hk => hk.2) (.string t231)) (fun _ hk => hk.2) (.slice Ao67 t232.length co67)) (fun _ hk => hk.2) (.slice Ao69 t235.length co69)) (fun _ hk => ⟨hk.1.1, ⟨hk.1.2.1, hk.1.2.2⟩⟩)⟩
          have n1_ : Aside0 (Kd.R k99 99 ((((((w62.setCell ⟨gb241, 0, none⟩ (.int .i64 t228)).setCell ⟨gb241, 1, none⟩ (.int .i64 t229)).setCell ⟨gb241, 2, none⟩ (.string t230)).setCell ⟨gb241, 3, none⟩ (.string t231)).setCell ⟨gb241, 4, none⟩ (.slice Ao67 t232.length co67)).setCell ⟨gb241, 5, none⟩ (.slice Ao69 t235.length co69)) w0.heap.size (fun k_ => (P3_ k_ ∨ w.heap.size ≤ k_) ∧ some k_ ≠ (.slice Ao67 t232.length co67 : Value).ownBlock) (.slice Ao18 t212.length co18) t212) := ⟨by (with_reducible repeat (first | apply Kd.R_alloc | apply Kd.R_drewN | apply Kd.R_drew)); exact Kd.R_mono (Kd.R_far (p := ⟨gb241, 5, none⟩) (Kd.R_far (p := ⟨gb241, 4, none⟩) (Kd.R_far (p := ⟨gb241, 3, none⟩) (Kd.R_far (p := ⟨gb241, 2, none⟩) (Kd.R_far (p := ⟨gb241, 1, none⟩) (Kd.R_far (p := ⟨gb241, 0, none⟩) (Kd.R_types HO_216004.out BK241.out (by decide)) (fun _ hk => hk.2) (.int .i64 t228)) (fun _ hk => hk.2) (.int .i64 t229)) (fun _ hk => hk.2) (.string t230)) (fun _ hk => hk.2) (.string t231)) (fun _ hk => hk.2) (.slice Ao67 t232.length co67)) (fun _ hk => hk.2) (.slice Ao69 t235.length co69)) (fun _ hk => ⟨hk.1.1, hk.1.2⟩)⟩
          have n2_ : Aside0 (Kd.N k27 27 ((((((w62.setCell ⟨gb241, 0, none⟩ (.int .i64 t228)).setCell ⟨gb241, 1, none⟩ (.int .i64 t229)).setCell ⟨gb241, 2, none⟩ (.string t230)).setCell ⟨gb241, 3, none⟩ (.string t231)).setCell ⟨gb241, 4, none⟩ (.slice Ao67 t232.length co67)).setCell ⟨gb241, 5, none⟩ (.slice Ao69 t235.length co69)) w.heap.size (fun k_ => (P3_ k_ ∨ w.heap.size ≤ k_) ∧ some k_ ≠ (.slice (some ad222) t219.length co54 : Value).ownBlock ∧ some k_ ≠ (.slice Ao18 t212.length co18 : Value).ownBlock ∧ some k_ ≠ (.slice Ao67 t232.length co67 : Value).ownBlock ∧ some k_ ≠ (.slice Ao69 t235.length co69 : Value).ownBlock ∧ some k_ ≠ (v239 : Value).ownBlock ∧ k_ ≠ gb208 ∧ k_ ≠ gb209 ∧ k_ ≠ gb210 ∧ k_ ≠ gb215 ∧ k_ ≠ gb241) u216005 x216005_1) := ⟨by (with_reducible repeat (first | apply Kd.N_alloc | apply Kd.N_drewN | apply Kd.N_drew)); exact Kd.N_mono (Kd.N_far (p := ⟨gb241, 5, none⟩) (Kd.N_far (p := ⟨gb241, 4, none⟩) (Kd.N_far (p := ⟨gb241, 3, none⟩) (Kd.N_far (p := ⟨gb241, 2, none⟩) (Kd.N_far (p := ⟨gb241, 1, none⟩) (Kd.N_far (p := ⟨gb241, 0, none⟩) (Kd.N_mono HO_216005.out (fun k_ hk => (⟨hk, hk.2.2.2.2.2.2.2.2.2.2⟩ : _ ∧ k_ ≠ gb241))) (fun _ hk => hk.2) (.int .i64 t228)) (fun _ hk => hk.2) (.int .i64 t229)) (fun _ hk => hk.2) (.string t230)) (fun _ hk => hk.2) (.string t231)) (fun _ hk => hk.2) (.slice Ao67 t232.length co67)) (fun _ hk => hk.2) (.slice Ao69 t235.length co69)) (fun _ hk => ⟨hk.1.1, ⟨hk.1.2.2.2.2.1, ⟨hk.1.2.2.2.2.2.1, ⟨hk.1.2.1, ⟨hk.1.2.2.1, ⟨hk.1.2.2.2.1, ⟨hk.1.2.2.2.2.2.2.1, ⟨hk.1.2.2.2.2.2.2.2.1, ⟨hk.1.2.2.2.2.2.2.2.2.1, ⟨hk.1.2.2.2.2.2.2.2.2.2.1, hk.1.2.2.2.2.2.2.2.2.2.2⟩⟩⟩⟩⟩⟩⟩⟩⟩⟩)⟩
          have n3_ : Aside0 (Kd.R k99 99 ((((((w62.setCell ⟨gb241, 0, none⟩ (.int .i64 t228)).setCell ⟨gb241, 1, none⟩ (.int .i64 t229)).setCell ⟨gb241, 2, none⟩ (.string t230)).setCell ⟨gb241, 3, none⟩ (.string t231)).setCell ⟨gb241, 4, none⟩ (.slice Ao67 t232.length co67)).setCell ⟨gb241, 5, none⟩ (.slice Ao69 t235.length co69)) w0.heap.size (fun k_ => (P3_ k_ ∨ w.heap.size ≤ k_) ∧ some k_ ≠ (.slice Ao18 t212.length co18 : Value).ownBlock) (.slice Ao67 t232.length co67) t232) := ⟨by (with_reducible repeat (first | apply Kd.R_alloc | apply Kd.R_drewN | apply Kd.R_drew)); exact Kd.R_mono (Kd.R_far (p := ⟨gb241, 5, none⟩) (Kd.R_far (p := ⟨gb241, 4, none⟩) (Kd.R_far (p := ⟨gb241, 3, none⟩) (Kd.R_far (p := ⟨gb241, 2, none⟩) (Kd.R_far (p := ⟨gb241, 1, none⟩) (Kd.R_far (p := ⟨gb241, 0, none⟩) (Kd.R_types HO234.out BK241.out (by decide)) (fun _ hk => hk.2) (.int .i64 t228)) (fun _ hk => hk.2) (.int .i64 t229)) (fun _ hk => hk.2) (.string t230)) (fun _ hk => hk.2) (.string t231)) (fun _ hk => hk.2) (.slice Ao67 t232.length co67)) (fun _ hk => hk.2) (.slice Ao69 t235.length co69)) (fun _ hk => ⟨hk.1.1, hk.1.2⟩)⟩
          have n4_ : Aside0 (Kd.N k27 27 ((((((w62.setCell ⟨gb241, 0, none⟩ (.int .i64 t228)).setCell ⟨gb241, 1, none⟩ (.int .i64 t229)).setCell ⟨gb241, 2, none⟩ (.string t230)).setCell ⟨gb241, 3, none⟩ (.string t231)).setCell ⟨gb241, 4, none⟩ (.slice Ao67 t232.length co67)).setCell ⟨gb241, 5, none⟩ (.slice Ao69 t235.length co69)) w.heap.size (fun k_ => (P3_ k_ ∨ w.heap.size ≤ k_) ∧ some k_ ≠ (.slice (some ad222) t219.length co54 : Value).ownBlock ∧ some k_ ≠ (.slice Ao18 t212.length co18 : Value).ownBlock ∧ some k_ ≠ (u216005 : Value).ownBlock ∧ some k_ ≠ (.slice Ao67 t232.length co67 : Value).ownBlock ∧ some k_ ≠ (v239 : Value).ownBlock ∧ k_ ≠ gb208 ∧ k_ ≠ gb209 ∧ k_ ≠ gb210 ∧ k_ ≠ gb215 ∧ k_ ≠ gb241) (.slice Ao69 t235.length co69) t235) := ⟨by (with_reducible repeat (first | apply Kd.N_alloc | apply Kd.N_drewN | apply Kd.N_drew)); exact Kd.N_mono (Kd.N_far (p := ⟨gb241, 5, none⟩) (Kd.N_far (p := ⟨gb241, 4, none⟩) (Kd.N_far (p := ⟨gb241, 3, none⟩) (Kd.N_far (p := ⟨gb241, 2, none⟩) (Kd.N_far (p := ⟨gb241, 1, none⟩) (Kd.N_far (p := ⟨gb241, 0, none⟩) (Kd.N_mono HO237.out (fun k_ hk => (⟨hk, hk.2.2.2.2.2.2.2.2.2.2⟩ : _ ∧ k_ ≠ gb241))) (fun _ hk => hk.2) (.int .i64 t228)) (fun _ hk => hk.2) (.int .i64 t229)) (fun _ hk => hk.2) (.string t230)) (fun _ hk => hk.2) (.string t231)) (fun _ hk => hk.2) (.slice Ao67 t232.length co67)) (fun _ hk => hk.2) (.slice Ao69 t235.length co69)) (fun _ hk => ⟨hk.1.1, ⟨hk.1.2.2.2.1, ⟨hk.1.2.2.2.2.1, ⟨hk.1.2.2.2.2.2.1, ⟨hk.1.2.1, ⟨hk.1.2.2.1, ⟨hk.1.2.2.2.2.2.2.1, ⟨hk.1.2.2.2.2.2.2.2.1, ⟨hk.1.2.2.2.2.2.2.2.2.1, ⟨hk.1.2.2.2.2.2.2.2.2.2.1, hk.1.2.2.2.2.2.2.2.2.2.2⟩⟩⟩⟩⟩⟩⟩⟩⟩⟩)⟩
          have n5_ : Aside0 (Kd.R k23 23 ((((((w62.setCell ⟨gb241, 0, none⟩ (.int .i64 t228)).setCell ⟨gb241, 1, none⟩ (.int .i64 t229)).setCell ⟨gb241, 2, none⟩ (.string t230)).setCell ⟨gb241, 3, none⟩ (.string t231)).setCell ⟨gb241, 4, none⟩ (.slice Ao67 t232.length co67)).setCell ⟨gb241, 5, none⟩ (.slice Ao69 t235.length co69)) w0.heap.size (fun k_ => (P3_ k_ ∨ w.heap.size ≤ k_) ∧ some k_ ≠ (.slice (some ad222) t219.length co54 : Value).ownBlock ∧ k_ ≠ gb209) v239 t238) := ⟨by (with_reducible repeat (first | apply Kd.R_alloc | apply Kd.R_drewN | apply Kd.R_drew)); exact Kd.R_mono (Kd.R_far (p := ⟨gb241, 5, none⟩) (Kd.R_far (p := ⟨gb241, 4, none⟩) (Kd.R_far (p := ⟨gb241, 3, none⟩) (Kd.R_far (p := ⟨gb241, 2, none⟩) (Kd.R_far (p := ⟨gb241, 1, none⟩) (Kd.R_far (p := ⟨gb241, 0, none⟩) (Kd.R_types HO240.out BK241.out (by decide)) (fun _ hk => hk.2) (.int .i64 t228)) (fun _ hk => hk.2) (.int .i64 t229)) (fun _ hk => hk.2) (.string t230)) (fun _ hk => hk.2) (.string t231)) (fun _ hk => hk.2) (.slice Ao67 t232.length co67)) (fun _ hk => hk.2) (.slice Ao69 t235.length co69)) (fun _ hk => ⟨hk.1.1, ⟨hk.1.2.1, hk.1.2.2⟩⟩)⟩
          have n6_ : Aside0 (((((((w62.setCell ⟨gb241, 0, none⟩ (.int .i64 t228)).setCell ⟨gb241, 1, none⟩ (.int .i64 t229)).setCell ⟨gb241, 2, none⟩ (.string t230)).setCell ⟨gb241, 3, none⟩ (.string t231)).setCell ⟨gb241, 4, none⟩ (.slice Ao67 t232.length co67)).setCell ⟨gb241, 5, none⟩ (.slice Ao69 t235.length co69)).heap[gb208]? = some (.cells #[.slice A0_0 l0_0.length c0_0, .slice A0_1 l0_1.length c0_1, .slice A0_2 l0_2.length c0_2, .slice A0_3 l0_3.length c0_3] 39 (0, 0))) := ⟨by (with_reducible repeat (first | refine blk_drewN ?_ _ | refine blk_drew ?_ | refine blk_alloc ?_ _)); refine blk_far ?_ NB208_241.out _; (with_reducible repeat (first | refine blk_drewN ?_ _ | refine blk_drew ?_ | refine blk_alloc ?_ _)); refine blk_far ?_ NB208_241.out _; (with_reducible repeat (first | refine blk_drewN ?_ _ | refine blk_drew ?_ | refine blk_alloc ?_ _)); refine blk_far ?_ NB208_241.out _; (with_reducible repeat (first | refine blk_drewN ?_ _ | refine blk_drew ?_ | refine blk_alloc ?_ _)); refine blk_far ?_ NB208_241.out _; (with_reducible repeat (first | refine blk_drewN ?_ _ | refine blk_drew ?_ | refine blk_alloc ?_ _)); refine blk_far ?_ NB208_241.out _; (with_reducible repeat (first | refine blk_drewN ?_ _ | refine blk_drew ?_ | refine blk_alloc ?_ _)); refine blk_far ?_ NB208_241.out _; (with_reducible repeat (first | refine blk_drewN ?_ _ | refine blk_drew ?_ | refine blk_alloc ?_ _)); exact BK208.out⟩
          have n7_ : Aside0 (((((((w62.setCell ⟨gb241, 0, none⟩ (.int .i64 t228)).setCell ⟨gb241, 1, none⟩ (.int .i64 t229)).setCell ⟨gb241, 2, none⟩ (.string t230)).setCell ⟨gb241, 3, none⟩ (.string t231)).setCell ⟨gb241, 4, none⟩ (.slice Ao67 t232.length co67)).setCell ⟨gb241, 5, none⟩ (.slice Ao69 t235.length co69)).heap[gb209]? = some (.cells #[.int .i64 a1_0, .int .i64 a1_1] 23 (0, 0))) := ⟨by (with_reducible repeat (first | refine blk_drewN ?_ _ | refine blk_drew ?_ | refine blk_alloc ?_ _)); refine blk_far ?_ NB209_241.out _; (with_reducible repeat (first | refine blk_drewN ?_ _ | refine blk_drew ?_ | refine blk_alloc ?_ _)); refine blk_far ?_ NB209_241.out _; (with_reducible repeat (first | refine blk_drewN ?_ _ | refine blk_drew ?_ | refine blk_alloc ?_ _)); refine blk_far ?_ NB209_241.out _; (with_reducible repeat (first | refine blk_drewN ?_ _ | refine blk_drew ?_ | refine blk_alloc ?_ _)); refine blk_far ?_ NB209_241.out _; (with_reducible repeat (first | refine blk_drewN ?_ _ | refine blk_drew ?_ | refine blk_alloc ?_ _)); refine blk_far ?_ NB209_241.out _; (with_reducible repeat (first | refine blk_drewN ?_ _ | refine blk_drew ?_ | refine blk_alloc ?_ _)); refine blk_far ?_ NB209_241.out _; (with_reducible repeat (first | refine blk_drewN ?_ _ | refine blk_drew ?_ | refine blk_alloc ?_ _)); exact BK209.out⟩
          have n8_ : Aside0 (((((((w62.setCell ⟨gb241, 0, none⟩ (.int .i64 t228)).setCell ⟨gb241, 1, none⟩ (.int .i64 t229)).setCell ⟨gb241, 2, none⟩ (.string t230)).setCell ⟨gb241, 3, none⟩ (.string t231)).setCell ⟨gb241, 4, none⟩ (.slice Ao67 t232.length co67)).setCell ⟨gb241, 5, none⟩ (.slice Ao69 t235.length co69)).heap[gb210]? = some (.cells #[.int .i64 0, .int .i64 0, .string (⟨#[]⟩ : ByteArray), .string (⟨#[]⟩ : ByteArray), .slice none 0 0, .slice none 0 0] 27 (0, 0))) := ⟨by (with_reducible repeat (first | refine blk_drewN ?_ _ | refine blk_drew ?_ | refine blk_alloc ?_ _)); refine blk_far ?_ NB210_241.out _; (with_reducible repeat (first | refine blk_drewN ?_ _ | refine blk_drew ?_ | refine blk_alloc ?_ _)); refine blk_far ?_ NB210_241.out _; (with_reducible repeat (first | refine blk_drewN ?_ _ | refine blk_drew ?_ | refine blk_alloc ?_ _)); refine blk_far ?_ NB210_241.out _; (with_reducible repeat (first | refine blk_drewN ?_ _ | refine blk_drew ?_ | refine blk_alloc ?_ _)); refine blk_far ?_ NB210_241.out _; (with_reducible repeat (first | refine blk_drewN ?_ _ | refine blk_drew ?_ | refine blk_alloc ?_ _)); refine blk_far ?_ NB210_241.out _; (with_reducible repeat (first | refine blk_drewN ?_ _ | refine blk_drew ?_ | refine blk_alloc ?_ _)); refine blk_far ?_ NB210_241.out _; (with_reducible repeat (first | refine blk_drewN ?_ _ | refine blk_drew ?_ | refine blk_alloc ?_ _)); exact BK210.out⟩
          have n9_ : Aside0 (((((((w62.setCell ⟨gb241, 0, none⟩ (.int .i64 t228)).setCell ⟨gb241, 1, none⟩ (.int .i64 t229)).setCell ⟨gb241, 2, none⟩ (.string t230)).setCell ⟨gb241, 3, none⟩ (.string t231)).setCell ⟨gb241, 4, none⟩ (.slice Ao67 t232.length co67)).setCell ⟨gb241, 5, none⟩ (.slice Ao69 t235.length co69)).heap[gb215]? = some (.cells #[.int .i64 a1_0, .int .i64 a1_1, .string a2, .string t211, .slice Ao18 t212.length co18, u216005] 27 (0, 0))) := ⟨by (with_reducible repeat (first | refine blk_drewN ?_ _ | refine blk_drew ?_ | refine blk_alloc ?_ _)); refine blk_far ?_ NB215_241.out _; (with_reducible repeat (first | refine blk_drewN ?_ _ | refine blk_drew ?_ | refine blk_alloc ?_ _)); refine blk_far ?_ NB215_241.out _; (with_reducible repeat (first | refine blk_drewN ?_ _ | refine blk_drew ?_ | refine blk_alloc ?_ _)); refine blk_far ?_ NB215_241.out _; (with_reducible repeat (first | refine blk_drewN ?_ _ | refine blk_drew ?_ | refine blk_alloc ?_ _)); refine blk_far ?_ NB215_241.out _; (with_reducible repeat (first | refine blk_drewN ?_ _ | refine blk_drew ?_ | refine blk_alloc ?_ _)); refine blk_far ?_ NB215_241.out _; (with_reducible repeat (first | refine blk_drewN ?_ _ | refine blk_drew ?_ | refine blk_alloc ?_ _)); refine blk_far ?_ NB215_241.out _; (with_reducible repeat (first | refine blk_drewN ?_ _ | refine blk_drew ?_ | refine blk_alloc ?_ _)); exact BK215.out⟩
          have n10_ : Aside0 (((((((w62.setCell ⟨gb241, 0, none⟩ (.int .i64 t228)).setCell ⟨gb241, 1, none⟩ (.int .i64 t229)).setCell ⟨gb241, 2, none⟩ (.string t230)).setCell ⟨gb241, 3, none⟩ (.string t231)).setCell ⟨gb241, 4, none⟩ (.slice Ao67 t232.length co67)).setCell ⟨gb241, 5, none⟩ (.slice Ao69 t235.length co69)).heap[gb241]? = some (.cells #[.int .i64 t228, .int .i64 t229, .string t230, .string t231, .slice Ao67 t232.length co67, .slice Ao69 t235.length co69] 27 (0, 0))) := ⟨by (with_reducible repeat (first | refine blk_drewN ?_ _ | refine blk_drew ?_ | refine blk_alloc ?_ _)); refine blk_put (cs := #[.int .i64 t228, .int .i64 t229, .string t230, .string t231, .slice Ao67 t232.length co67, .slice none 0 0]) ?_ 5 _ rfl; (with_reducible repeat (first | refine blk_drewN ?_ _ | refine blk_drew ?_ | refine blk_alloc ?_ _)); refine blk_put (cs := #[.int .i64 t228, .int .i64 t229, .string t230, .string t231, .slice none 0 0, .slice none 0 0]) ?_ 4 _ rfl; (with_reducible repeat (first | refine blk_drewN ?_ _ | refine blk_drew ?_ | refine blk_alloc ?_ _)); refine blk_put (cs := #[.int .i64 t228, .int .i64 t229, .string t230, .string (⟨#[]⟩ : ByteArray), .slice none 0 0, .slice none 0 0]) ?_ 3 _ rfl; (with_reducible repeat (first | refine blk_drewN ?_ _ | refine blk_drew ?_ | refine blk_alloc ?_ _)); refine blk_put (cs := #[.int .i64 t228, .int .i64 t229, .string (⟨#[]⟩ : ByteArray), .string (⟨#[]⟩ : ByteArray), .slice none 0 0, .slice none 0 0]) ?_ 2 _ rfl; (with_reducible repeat (first | refine blk_drewN ?_ _ | refine blk_drew ?_ | refine blk_alloc ?_ _)); refine blk_put (cs := #[.int .i64 t228, .int .i64 0, .string (⟨#[]⟩ : ByteArray), .string (⟨#[]⟩ : ByteArray), .slice none 0 0, .slice none 0 0]) ?_ 1 _ rfl; (with_reducible repeat (first | refine blk_drewN ?_ _ | refine blk_drew ?_ | refine blk_alloc ?_ _)); refine blk_put (cs := #[.int .i64 0, .int .i64 0, .string (⟨#[]⟩ : ByteArray), .string (⟨#[]⟩ : ByteArray), .slice none 0 0, .slice none 0 0]) ?_ 0 _ rfl; (with_reducible repeat (first | refine blk_drewN ?_ _ | refine blk_drew ?_ | refine blk_alloc ?_ _)); exact BK241.out⟩
          have n11_ : Aside0 (Kept w ((((((w62.setCell ⟨gb241, 0, none⟩ (.int .i64 t228)).setCell ⟨gb241, 1, none⟩ (.int .i64 t229)).setCell ⟨gb241, 2, none⟩ (.string t230)).setCell ⟨gb241, 3, none⟩ (.string t231)).setCell ⟨gb241, 4, none⟩ (.slice Ao67 t232.length co67)).setCell ⟨gb241, 5, none⟩ (.slice Ao69 t235.length co69)) (fun k_ => P3_ k_)) := ⟨kS5 HK GW208 GW209 GW210 GW215 GW241⟩
          have n12_ : Aside0 (Below w0.heap.size w0 ((((((w62.setCell ⟨gb241, 0, none⟩ (.int .i64 t228)).setCell ⟨gb241, 1, none⟩ (.int .i64 t229)).setCell ⟨gb241, 2, none⟩ (.string t230)).setCell ⟨gb241, 3, none⟩ (.string t231)).setCell ⟨gb241, 4, none⟩ (.slice Ao67 t232.length co67)).setCell ⟨gb241, 5, none⟩ (.slice Ao69 t235.length co69))) := ⟨bS5 HB GE208 GE209 GE210 GE215 GE241⟩
          (try clear HO_11)
          (try clear HO_216004)
          (try clear HO_216005)
          (try clear HO234)
          (try clear HO237)
          (try clear HO240)
          (try clear BK208)
          (try clear BK209)
          (try clear BK210)
          (try clear BK215)
          (try clear BK241)
          (try clear HK)
          (try clear HB)
          generalize ((((((w62.setCell ⟨gb241, 0, none⟩ (.int .i64 t228)).setCell ⟨gb241, 1, none⟩ (.int .i64 t229)).setCell ⟨gb241, 2, none⟩ (.string t230)).setCell ⟨gb241, 3, none⟩ (.string t231)).setCell ⟨gb241, 4, none⟩ (.slice Ao67 t232.length co67)).setCell ⟨gb241, 5, none⟩ (.slice Ao69 t235.length co69)) = w71 at n0_ n1_ n2_ n3_ n4_ n5_ n6_ n7_ n8_ n9_ n10_ n11_ n12_ ⊢
          have HO_11 := n0_
          have HO_216004 := n1_
          have HO_216005 := n2_
          have HO234 := n3_
          have HO237 := n4_
          have HO240 := n5_
          have BK208 := n6_
          have BK209 := n7_
          have BK210 := n8_
          have BK215 := n9_
          have BK241 := n10_
          have HK := n11_
          have HB := n12_
          clear n0_ n1_ n2_ n3_ n4_ n5_ n6_ n7_ n8_ n9_ n10_ n11_ n12_
          have hnb72 := NB215_208.out
          have hnc72 := NB208_215.out
          have hnb73 := NB215_209.out
          have hnc73 := NB209_215.out
          have hnb74 := NB215_210.out
          have hnc74 := NB210_215.out
          have hnb75 := NB215_241.out
          have hnc75 := NB241_215.out
          obtain ⟨hcz76_0, hcz76_1, hcz76_2, hcz76_3, hcz76_4, hcz76_5, hfz76_0, hfz76_1, hfz76_2, hfz76_3, hfz76_4, hfz76_5⟩ := b6e BK215
          have hnb77 := NB241_208.out
          have hnc77 := NB208_241.out
          have hnb78 := NB241_209.out
          have hnc78 := NB209_241.out
          have hnb79 := NB241_210.out
          have hnc79 := NB210_241.out
          obtain ⟨hcz80_0, hcz80_1, hcz80_2, hcz80_3, hcz80_4, hcz80_5, hfz80_0, hfz80_1, hfz80_2, hfz80_3, hfz80_4, hfz80_5⟩ := b6e BK241
          try go_wp2_with (first | ((with_reducible refine gate_builtin (b := .append) (xs := #[.tmp 77, .tmp 79]) rfl ?_); (try (refine gate_guard (by rfl) ?_; dsimp only)); at_builtin; refine Kd.N_append k27 w.heap.size rfl (.tmp 77) (.tmp 79) 25 27 (.agg #[(.int .i64 0), (.int .i64 0), (.string ⟨#[]⟩), (.string ⟨#[]⟩), (.slice none 0 0), (.slice none 0 0)]) 96 rfl Try.underlying25 info27 rfl (by decide) (by omega) u216005 x216005_1 (⟨(⟨t228, t229⟩ : S23), t230, t231, t232, t235⟩ : S27) [.int .i64 t228, .int .i64 t229, .string t230, .string t231, .slice Ao67 t232.length co67, .slice Ao69 t235.length co69] (fun k_ => (P3_ k_ ∨ w.heap.size ≤ k_) ∧ some k_ ≠ (.slice (some ad222) t219.length co54 : Value).ownBlock ∧ some k_ ≠ (.slice Ao18 t212.length co18 : Value).ownBlock ∧ some k_ ≠ (v239 : Value).ownBlock ∧ k_ ≠ gb208 ∧ k_ ≠ gb209 ∧ k_ ≠ gb210 ∧ k_ ≠ gb215 ∧ k_ ≠ gb241) (fun k_ => ((fun k_ => (P3_ k_ ∨ w.heap.size ≤ k_) ∧ some k_ ≠ (.slice (some ad222) t219.length co54 : Value).ownBlock ∧ some k_ ≠ (.slice Ao18 t212.length co18 : Value).ownBlock ∧ some k_ ≠ (v239 : Value).ownBlock ∧ k_ ≠ gb208 ∧ k_ ≠ gb209 ∧ k_ ≠ gb210 ∧ k_ ≠ gb215 ∧ k_ ≠ gb241)) k_ ∧ some k_ ≠ (u216005 : Value).ownBlock) rfl rfl ?aP (fun _ hk => hk) ?aF ?aO (Below.refl _ _) ?aS ?aL ?_; (case aP => exact (k27_mkF _ _ (⟨(⟨t228, t229⟩ : S23), t230, t231, t232, t235⟩ : S27) (Kd.R_reads' (Kd.R_mono (ok' := (fun k_ => ((fun k_ => (P3_ k_ ∨ w.heap.size ≤ k_) ∧ some k_ ≠ (.slice (some ad222) t219.length co54 : Value).ownBlock ∧ some k_ ≠ (.slice Ao18 t212.length co18 : Value).ownBlock ∧ some k_ ≠ (v239 : Value).ownBlock ∧ k_ ≠ gb208 ∧ k_ ≠ gb209 ∧ k_ ≠ gb210 ∧ k_ ≠ gb215 ∧ k_ ≠ gb241)) k_ ∧ some k_ ≠ (u216005 : Value).ownBlock)) (Kd.R_types (Kd.R_types (Kd.R_types (Kd.R_types (Kd.R_types (Kd.R_apart' (Kd.R_apart' (Kd.R_apart' (HO234.out) (Kd.R_typed HO_11.out) (by decide)) (Kd.R_typed HO240.out) (by decide)) (Kd.N_typed HO_216005.out) (by decide)) BK208.out (by decide)) BK209.out (by decide)) BK210.out (by decide)) BK215.out (by decide)) BK241.out (by decide)) (fun k_ hk => ⟨⟨hk.1.1.1.1.1.1.1.1.1, ⟨hk.1.1.1.1.1.1.1.2, ⟨hk.1.1.1.1.1.1.1.1.2, ⟨hk.1.1.1.1.1.1.2, ⟨hk.1.1.1.1.2, ⟨hk.1.1.1.2, ⟨hk.1.1.2, ⟨hk.1.2, hk.2⟩⟩⟩⟩⟩⟩⟩⟩, hk.1.1.1.1.1.2⟩))).2.1 (Kd.R_F (Kd.R_mono (ok' := (fun k_ => ((fun k_ => (P3_ k_ ∨ w.heap.size ≤ k_) ∧ some k_ ≠ (.slice (some ad222) t219.length co54 : Value).ownBlock ∧ some k_ ≠ (.slice Ao18 t212.length co18 : Value).ownBlock ∧ some k_ ≠ (v239 : Value).ownBlock ∧ k_ ≠ gb208 ∧ k_ ≠ gb209 ∧ k_ ≠ gb210 ∧ k_ ≠ gb215 ∧ k_ ≠ gb241)) k_ ∧ some k_ ≠ (u216005 : Value).ownBlock)) (Kd.R_types (Kd.R_types (Kd.R_types (Kd.R_types (Kd.R_types (Kd.R_apart' (Kd.R_apart' (Kd.R_apart' (HO234.out) (Kd.R_typed HO_11.out) (by decide)) (Kd.R_typed HO240.out) (by decide)) (Kd.N_typed HO_216005.out) (by decide)) BK208.out (by decide)) BK209.out (by decide)) BK210.out (by decide)) BK215.out (by decide)) BK241.out (by decide)) (fun k_ hk => ⟨⟨hk.1.1.1.1.1.1.1.1.1, ⟨hk.1.1.1.1.1.1.1.2, ⟨hk.1.1.1.1.1.1.1.1.2, ⟨hk.1.1.1.1.1.1.2, ⟨hk.1.1.1.1.2, ⟨hk.1.1.1.2, ⟨hk.1.1.2, ⟨hk.1.2, hk.2⟩⟩⟩⟩⟩⟩⟩⟩, hk.1.1.1.1.1.2⟩))) (Kd.N_reads' (Kd.N_mono (ok' := (fun k_ => ((fun k_ => (P3_ k_ ∨ w.heap.size ≤ k_) ∧ some k_ ≠ (.slice (some ad222) t219.length co54 : Value).ownBlock ∧ some k_ ≠ (.slice Ao18 t212.length co18 : Value).ownBlock ∧ some k_ ≠ (v239 : Value).ownBlock ∧ k_ ≠ gb208 ∧ k_ ≠ gb209 ∧ k_ ≠ gb210 ∧ k_ ≠ gb215 ∧ k_ ≠ gb241)) k_ ∧ some k_ ≠ (u216005 : Value).ownBlock)) (HO237.out) (fun k_ hk => ⟨⟨hk.1, ⟨hk.2.1, ⟨hk.2.2.1, ⟨hk.2.2.2.2.2.1, ⟨hk.2.2.2.2.2.2.1, ⟨hk.2.2.2.2.2.2.2.1, ⟨hk.2.2.2.2.2.2.2.2.1, ⟨hk.2.2.2.2.2.2.2.2.2.1, hk.2.2.2.2.2.2.2.2.2.2⟩⟩⟩⟩⟩⟩⟩⟩, hk.2.2.2.1⟩))).2.1 (Kd.N_F (Kd.N_mono (ok' := (fun k_ => ((fun k_ => (P3_ k_ ∨ w.heap.size ≤ k_) ∧ some k_ ≠ (.slice (some ad222) t219.length co54 : Value).ownBlock ∧ some k_ ≠ (.slice Ao18 t212.length co18 : Value).ownBlock ∧ some k_ ≠ (v239 : Value).ownBlock ∧ k_ ≠ gb208 ∧ k_ ≠ gb209 ∧ k_ ≠ gb210 ∧ k_ ≠ gb215 ∧ k_ ≠ gb241)) k_ ∧ some k_ ≠ (u216005 : Value).ownBlock)) (HO237.out) (fun k_ hk => ⟨⟨hk.1, ⟨hk.2.1, ⟨hk.2.2.1, ⟨hk.2.2.2.2.2.1, ⟨hk.2.2.2.2.2.2.1, ⟨hk.2.2.2.2.2.2.2.1, ⟨hk.2.2.2.2.2.2.2.2.1, ⟨hk.2.2.2.2.2.2.2.2.2.1, hk.2.2.2.2.2.2.2.2.2.2⟩⟩⟩⟩⟩⟩⟩⟩, hk.2.2.2.1⟩))))); (case aF => exact (fun k_ hk => ⟨(.inr (Nat.le_trans (kL5 HK GW208 GW209 GW210 GW215 GW241) hk)), Kd.fresh' (Kd.R_lt (RS HO_11)) k_ hk, Kd.fresh' (Kd.R_lt (RS HO_216004)) k_ hk, Kd.fresh' (Kd.R_lt (RS HO240)) k_ hk, Kd.freshB (g := gb208) (o := .cells #[.slice A0_0 l0_0.length c0_0, .slice A0_1 l0_1.length c0_1, .slice A0_2 l0_2.length c0_2, .slice A0_3 l0_3.length c0_3] 39 (0, 0)) (blkS BK208) k_ hk, Kd.freshB (g := gb209) (o := .cells #[.int .i64 a1_0, .int .i64 a1_1] 23 (0, 0)) (blkS BK209) k_ hk, Kd.freshB (g := gb210) (o := .cells #[.int .i64 0, .int .i64 0, .string (⟨#[]⟩ : ByteArray), .string (⟨#[]⟩ : ByteArray), .slice none 0 0, .slice none 0 0] 27 (0, 0)) (blkS BK210) k_ hk, Kd.freshB (g := gb215) (o := .cells #[.int .i64 a1_0, .int .i64 a1_1, .string a2, .string t211, .slice Ao18 t212.length co18, u216005] 27 (0, 0)) (blkS BK215) k_ hk, Kd.freshB (g := gb241) (o := .cells #[.int .i64 t228, .int .i64 t229, .string t230, .string t231, .slice Ao67 t232.length co67, .slice Ao69 t235.length co69] 27 (0, 0)) (blkS BK241) k_ hk⟩)); (case aO => exact (by (with_reducible repeat (first | apply Kd.N_alloc | apply Kd.N_drewN | apply Kd.N_drew)); exact Kd.N_mono HO_216005.out (fun _ hk => ⟨hk.1, ⟨hk.2.1, ⟨hk.2.2.1, ⟨hk.2.2.2.2.2.1, ⟨hk.2.2.2.2.2.2.1, ⟨hk.2.2.2.2.2.2.2.1, ⟨hk.2.2.2.2.2.2.2.2.1, ⟨hk.2.2.2.2.2.2.2.2.2.1, hk.2.2.2.2.2.2.2.2.2.2⟩⟩⟩⟩⟩⟩⟩⟩))); (case aS => exact (kL5 HK GW208 GW209 GW210 GW215 GW241)); (case aL => have := LMc53.out; omega); intro v243 w81 ho hb hg hat; rw [← Ny242.out] at ho; have n0_ := Aside0.mk (Kd.R_over' (RS HO_11) (Kd.N_typed (NS HO_216005)) (by decide) hg); have n1_ := Aside0.mk (Kd.R_over' (RS HO_216004) (Kd.N_typed (NS HO_216005)) (by decide) hg); have n2_ := Aside0.mk (blk_grown (blkS BK208) hg (Kd.N_ne HO_216005.out BK208.out (by decide))); have n3_ := Aside0.mk (blk_grown (blkS BK209) hg (Kd.N_ne HO_216005.out BK209.out (by decide))); have n4_ := Aside0.mk (blk_grown (blkS BK210) hg (Kd.N_away HO_216005.out (fun _ hk => hk.2.2.2.2.2.2.2.2.1))); have n5_ := Aside0.mk (blk_grown (blkS BK215) hg (Kd.N_away HO_216005.out (fun _ hk => hk.2.2.2.2.2.2.2.2.2.1))); have n6_ := Aside0.mk (Kd.R_over' (RS HO240) (Kd.N_typed (NS HO_216005)) (by decide) hg); have n7_ := Aside0.mk (blk_grown (blkS BK241) hg (Kd.N_away HO_216005.out (fun _ hk => hk.2.2.2.2.2.2.2.2.2.2))); have n8_ := Aside0.mk (below_weaken (bS5 HB GE208 GE209 GE210 GE215 GE241) HW0.out hb); have n9_ := Aside0.mk (Kept.of_grown (S := (fun k_ => P3_ k_)) hg (kS5 HK GW208 GW209 GW210 GW215 GW241) (fun k_ e_ => .inr (Kd.N_base HO_216005.out k_ e_))); have n10_ := Aside0.mk (ho); clear HO_11; clear HO_216004; clear BK208; clear BK209; clear BK210; clear BK215; clear HO240; clear BK241; clear HB; clear HK; clear HO_216005; clear HO234; clear HO237; have HO_11 := n0_; have HO_216004 := n1_; have BK208 := n2_; have BK209 := n3_; have BK210 := n4_; have BK215 := n5_; have HO240 := n6_; have BK241 := n7_; have HB := n8_; have HK := n9_; have HO244 := n10_; clear n0_ n1_ n2_ n3_ n4_ n5_ n6_ n7_ n8_ n9_ n10_; clear ho hb hg hat; obtain ⟨Ao82, co82, eo82⟩ := Kd.N_slice HO244.out; subst eo82; have hcz83_0 : w81.cell? ⟨gb215, 0, none⟩ = some (.int .i64 a1_0) := (blk_cell BK215.out 0).trans rfl; have hcz83_1 : w81.cell? ⟨gb215, 1, none⟩ = some (.int .i64 a1_1) := (blk_cell BK215.out 1).trans rfl; have hcz83_2 : w81.cell? ⟨gb215, 2, none⟩ = some (.string a2) := (blk_cell BK215.out 2).trans rfl; have hcz83_3 : w81.cell? ⟨gb215, 3, none⟩ = some (.string t211) := (blk_cell BK215.out 3).trans rfl; have hcz83_4 : w81.cell? ⟨gb215, 4, none⟩ = some (.slice Ao18 t212.length co18) := (blk_cell BK215.out 4).trans rfl; have hcz83_5 : w81.cell? ⟨gb215, 5, none⟩ = some (u216005) := (blk_cell BK215.out 5).trans rfl; have hfz83_0 := blk_frozen BK215.out 0; have hfz83_1 := blk_frozen BK215.out 1; have hfz83_2 := blk_frozen BK215.out 2; have hfz83_3 := blk_frozen BK215.out 3; have hfz83_4 := blk_frozen BK215.out 4; have hfz83_5 := blk_frozen BK215.out 5))
          go_roundg k1
          case measure => have := HK1.out; omega
          case rel => exact ⟨(t238), (wrap64 (x12_1 + 1)), (y242), (.slice Ao82 y242.length co82), (by first | rfl | (simp; done) | (simp [*]; done)), H', ⟨by have := HK1.out; omega⟩, ⟨by (with_reducible repeat (first | apply Kd.R_alloc | apply Kd.R_drewN | apply Kd.R_drew)); exact Kd.R_mono (Kd.R_far (p := ⟨gb215, 5, none⟩) (Kd.R_types HO240.out BK215.out (by decide)) (fun _ hk => hk.2) (.slice Ao82 y242.length co82)) (fun _ hk => ⟨hk.1.1, ⟨hk.1.2.1, hk.1.2.2⟩⟩)⟩, ⟨by (with_reducible repeat (first | apply Kd.R_alloc | apply Kd.R_drewN | apply Kd.R_drew)); exact Kd.R_mono (Kd.R_far (p := ⟨gb215, 5, none⟩) (Kd.R_types HO_11.out BK215.out (by decide)) (fun _ hk => hk.2) (.slice Ao82 y242.length co82)) (fun _ hk => ⟨hk.1.1, ⟨hk.1.2.1, hk.1.2.2⟩⟩)⟩, ⟨by (with_reducible repeat (first | apply Kd.R_alloc | apply Kd.R_drewN | apply Kd.R_drew)); exact Kd.R_mono (Kd.R_far (p := ⟨gb215, 5, none⟩) (Kd.R_types HO_216004.out BK215.out (by decide)) (fun _ hk => hk.2) (.slice Ao82 y242.length co82)) (fun _ hk => hk.1.1)⟩, ⟨by (with_reducible repeat (first | apply Kd.N_alloc | apply Kd.N_drewN | apply Kd.N_drew)); exact Kd.N_mono (Kd.N_far (p := ⟨gb215, 5, none⟩) (Kd.N_mono HO244.out (fun k_ hk => (⟨hk, hk.2.2.2.2.2.2.2.1⟩ : _ ∧ k_ ≠ gb215))) (fun _ hk => hk.2) (.slice Ao82 y242.length co82)) (fun _ hk => ⟨hk.1.1, ⟨hk.1.2.2.2.1, ⟨hk.1.2.1, ⟨hk.1.2.2.1, ⟨hk.1.2.2.2.2.1, ⟨hk.1.2.2.2.2.2.1, ⟨hk.1.2.2.2.2.2.2.1, hk.1.2.2.2.2.2.2.2.1⟩⟩⟩⟩⟩⟩⟩)⟩, ⟨by (with_reducible repeat (first | refine blk_drewN ?_ _ | refine blk_drew ?_ | refine blk_alloc ?_ _)); refine blk_far ?_ NB208_215.out _; (with_reducible repeat (first | refine blk_drewN ?_ _ | refine blk_drew ?_ | refine blk_alloc ?_ _)); exact BK208.out⟩, ⟨by (with_reducible repeat (first | refine blk_drewN ?_ _ | refine blk_drew ?_ | refine blk_alloc ?_ _)); refine blk_far ?_ NB209_215.out _; (with_reducible repeat (first | refine blk_drewN ?_ _ | refine blk_drew ?_ | refine blk_alloc ?_ _)); exact BK209.out⟩, ⟨by (with_reducible repeat (first | refine blk_drewN ?_ _ | refine blk_drew ?_ | refine blk_alloc ?_ _)); refine blk_far ?_ NB210_215.out _; (with_reducible repeat (first | refine blk_drewN ?_ _ | refine blk_drew ?_ | refine blk_alloc ?_ _)); exact BK210.out⟩, ⟨by (with_reducible repeat (first | refine blk_drewN ?_ _ | refine blk_drew ?_ | refine blk_alloc ?_ _)); refine blk_put (cs := #[.int .i64 a1_0, .int .i64 a1_1, .string a2, .string t211, .slice Ao18 t212.length co18, u216005]) ?_ 5 _ rfl; (with_reducible repeat (first | refine blk_drewN ?_ _ | refine blk_drew ?_ | refine blk_alloc ?_ _)); exact BK215.out⟩, ⟨kS5 HK GW208 GW209 GW210 GW215 GW241⟩, ⟨bS5 HB GE208 GE209 GE210 GE215 GE241⟩⟩
         ·rw [if_neg c53] at H
          exact absurd H (by simp)
      ·replace c38 := Bool.eq_false_iff.mpr c38
       subst c38
       have H1 : (topiaryref15_below.l0 k1 x3_1 t219 (wrap64 (x12_1 + 1)) l0_0 l0_1 l0_2 l0_3 a1_0 a1_1 a2 t211 t212 x216005_1) = some (r1, r2, r3, r4, r5, r6, r7) := by rw [if_neg (show ¬ (false = true) by decide)] at H; exact H
       clear H
       have H := H1
       clear H1
       have H' := Aside0.mk H
       clear H
       obtain ⟨Ao84, co84, eo84⟩ := Kd.R_slice HO_11.out
       subst eo84
       try go_wp2
       replace HO_3 := Aside0.mk (Kd.R_drew HO_3.out)
       replace HO_11 := Aside0.mk (Kd.R_drew HO_11.out)
       replace HO_216004 := Aside0.mk (Kd.R_drew HO_216004.out)
       replace HO_216005 := Aside0.mk (Kd.N_drew HO_216005.out)
       replace BK208 := Aside0.mk (blk_drew BK208.out)
       replace BK209 := Aside0.mk (blk_drew BK209.out)
       replace BK210 := Aside0.mk (blk_drew BK210.out)
       replace BK215 := Aside0.mk (blk_drew BK215.out)
       replace HK := Aside0.mk (Kept.drew HK.out)
       replace HB := Aside0.mk (below_drew1 HB.out)
       have p222 : 0 ≤ (x12_1 : Int) := of_decide_eq_true asmS
       have q222 : x12_1 < (t219.length : Int) := of_decide_eq_true asmS
       obtain ⟨ad222, e222, hx222_0, hx222_1⟩ := at_T23 (Kd.R_reads' HO_11.out).2.2 x12_1 p222 q222
       cases e222
       replace p222 := eq_true p222
       replace q222 := eq_true q222
       refine startS (n := 11) (S := fun w' => w'.cell? ⟨gb208, 0, none⟩ = some (.slice A0_0 l0_0.length c0_0) ∧ w'.cell? ⟨gb208, 1, none⟩ = some (.slice A0_1 l0_1.length c0_1) ∧ w'.cell? ⟨gb208, 2, none⟩ = some (.slice A0_2 l0_2.length c0_2) ∧ w'.cell? ⟨gb208, 3, none⟩ = some (.slice A0_3 l0_3.length c0_3) ∧ w'.cell? (ad222.add ((x12_1).toNat * 2)) = some (.int .i64 ((rd_T23 t219 x12_1).f0)) ∧ w'.cell? ⟨(ad222.add ((x12_1).toNat * 2)).block, (ad222.add ((x12_1).toNat * 2)).off + 1, none⟩ = some (.int .i64 ((rd_T23 t219 x12_1).f1))) (ds := []) ⟨(blk_cell BK208.out 0).trans rfl, (blk_cell BK208.out 1).trans rfl, (blk_cell BK208.out 2).trans rfl, (blk_cell BK208.out 3).trans rfl, hx222_0, hx222_1⟩ (fun hHeld => ?_); refine with_tabW topiaryref15_below.tab7 topiaryref15_below.bits7 (fun HT_ HW_ => ?_)
       generalize wr.drew = w85 at HO_3 HO_11 HO_216004 HO_216005 BK208 BK209 BK210 BK215 HK HB hx222_0 hx222_1 hHeld ⊢
       refine pureT (i := 1) (N := some 42) HT_ ?_
       refine pureT (i := 2) (N := some 43) HT_ ?_
       refine pureT (i := 3) (N := some 44) HT_ ?_
       refine takeS (i := 0) (N := some 41) (v := ?_) HT_ HW_ hHeld ?_ ?_
       rotate_left
       ·rintro w' ⟨s0, s1, s2, s3, s4, s5⟩
        go_simp
        with_reducible rfl
       refine normS (N := some 41) ?_
       refine takeS (i := 4) (N := some 45) (v := ?_) HT_ HW_ hHeld ?_ ?_
       rotate_left
       ·rintro w' ⟨s0, s1, s2, s3, s4, s5⟩
        go_simp
        with_reducible rfl
       refine normS (N := some 45) ?_
       refine oneS (i := 5) (N := some 46) HT_ (fun K hK => ?_)
       refine goes_ Try.func56 (by kernel_rfl) rfl #[.agg #[.slice A0_0 l0_0.length c0_0, .slice A0_1 l0_1.length c0_1, .slice A0_2 l0_2.length c0_2, .slice A0_3 l0_3.length c0_3], .agg #[.int .i64 ((rd_T23 t219 x12_1).f0), .int .i64 ((rd_T23 t219 x12_1).f1)]] (by rfl) rfl rfl argS ?_
       with_reducible refine (topiaryref14_Tag.calls k1 _ _ l0_0 _ _ l0_1 _ _ l0_2 _ _ l0_3 ((rd_T23 t219 x12_1).f0) ((rd_T23 t219 x12_1).f1) t223 false _ ?side1 ?side2 ?side3 ?side4 ?side5 ?side6 ?side7 ?side8 A37.out).mono ?_
       (case side1 => exact Kd.C_kept_now HR0_0.out (kS4 HK GW208 GW209 GW210 GW215))
       (case side2 => exact HC0_0.out)
       (case side3 => exact Kd.C_kept_now HR0_1.out (kS4 HK GW208 GW209 GW210 GW215))
       (case side4 => exact HC0_1.out)
       (case side5 => exact Kd.C_kept_now HR0_2.out (kS4 HK GW208 GW209 GW210 GW215))
       (case side6 => exact HC0_2.out)
       (case side7 => exact Kd.C_kept_now HR0_3.out (kS4 HK GW208 GW209 GW210 GW215))
       (case side8 => exact HC0_3.out)
       rintro e w86 ⟨rfl, hb⟩
       have HS4_ := (hb.cell (World.block_lt_of_cell? _ _ (hHeld.2.2.2.2.1))).trans (hHeld.2.2.2.2.1)
       have HS5_ := (hb.cell (World.block_lt_of_cell? _ _ (hHeld.2.2.2.2.2))).trans (hHeld.2.2.2.2.2)
       refine ⟨_, rfl, ?_⟩
       replace HO_3 := Aside0.mk (Kd.R_below (RS HO_3) hb)
       replace HO_11 := Aside0.mk (Kd.R_below (RS HO_11) hb)
       replace HO_216004 := Aside0.mk (Kd.R_below (RS HO_216004) hb)
       replace HO_216005 := Aside0.mk (Kd.N_below (NS HO_216005) hb)
       replace BK208 := bB BK208 hb
       replace BK209 := bB BK209 hb
       replace BK210 := bB BK210 hb
       replace BK215 := bB BK215 hb
       replace HK := Aside0.mk (Kept.below (S := (fun k_ => P3_ k_)) (kS4 HK GW208 GW209 GW210 GW215) hb)
       replace HB := Aside0.mk (below_step (bS4 HB GE208 GE209 GE210 GE215) hb)
       (try clear hb)
       refine hK.out _ _ ⟨(blk_cell BK208.out 0).trans rfl, (blk_cell BK208.out 1).trans rfl, (blk_cell BK208.out 2).trans rfl, (blk_cell BK208.out 3).trans rfl, HS4_, HS5_⟩ (fun hHeld => ?_)
       clear hK K
       refine normS (N := (some 46)) ?_
       refine pureT (i := 6) (N := some 40) HT_ ?_
       refine pureT (i := 7) (N := some 47) HT_ ?_
       refine pureT (i := 8) (N := some 48) HT_ ?_
       refine pureT (i := 9) (N := some 13) HT_ ?_
       refine pureT (i := 10) (N := some 14) HT_ ?_
       refine done_ (done_of HT_.out (by kernel_rfl)) ?_
       try go_wp2
       go_roundg k1
       case measure => have := HK1.out; omega
       case rel => exact ⟨(x3_1), (wrap64 (x12_1 + 1)), (x216005_1), (u216005), (by first | rfl | (simp; done) | (simp [*]; done)), H', ⟨by have := HK1.out; omega⟩, ⟨by (with_reducible repeat (first | apply Kd.R_alloc | apply Kd.R_drewN | apply Kd.R_drew)); exact HO_3.out⟩, ⟨by (with_reducible repeat (first | apply Kd.R_alloc | apply Kd.R_drewN | apply Kd.R_drew)); exact HO_11.out⟩, ⟨by (with_reducible repeat (first | apply Kd.R_alloc | apply Kd.R_drewN | apply Kd.R_drew)); exact HO_216004.out⟩, ⟨by (with_reducible repeat (first | apply Kd.N_alloc | apply Kd.N_drewN | apply Kd.N_drew)); exact HO_216005.out⟩, ⟨by (with_reducible repeat (first | refine blk_drewN ?_ _ | refine blk_drew ?_ | refine blk_alloc ?_ _)); exact BK208.out⟩, ⟨by (with_reducible repeat (first | refine blk_drewN ?_ _ | refine blk_drew ?_ | refine blk_alloc ?_ _)); exact BK209.out⟩, ⟨by (with_reducible repeat (first | refine blk_drewN ?_ _ | refine blk_drew ?_ | refine blk_alloc ?_ _)); exact BK210.out⟩, ⟨by (with_reducible repeat (first | refine blk_drewN ?_ _ | refine blk_drew ?_ | refine blk_alloc ?_ _)); exact BK215.out⟩, ⟨kS4 HK GW208 GW209 GW210 GW215⟩, ⟨bS4 HB GE208 GE209 GE210 GE215⟩⟩
     ·rw [if_neg c36] at H
      exact absurd H (by simp)
    ·rw [if_neg c35] at H
     have c35b0 : decide (x12_1 < (t219.length : Int)) = false := decide_eq_false c35
     clear c35
     simp only [Option.some.injEq, Prod.mk.injEq] at H
     obtain ⟨rfl, rfl, rfl, rfl, rfl, rfl, rfl⟩ := H
     obtain ⟨Ao87, co87, eo87⟩ := Kd.R_slice HO_11.out
     subst eo87
     have hnb88 := NB215_208.out
     have hnc88 := NB208_215.out
     have hnb89 := NB215_209.out
     have hnc89 := NB209_215.out
     have hnb90 := NB215_210.out
     have hnc90 := NB210_215.out
     obtain ⟨hcz91_0, hcz91_1, hcz91_2, hcz91_3, hcz91_4, hcz91_5, hfz91_0, hfz91_1, hfz91_2, hfz91_3, hfz91_4, hfz91_5⟩ := b6e BK215
     have hnb92 := NB210_208.out
     have hnc92 := NB208_210.out
     have hnb93 := NB210_209.out
     have hnc93 := NB209_210.out
     obtain ⟨hcz94_0, hcz94_1, hcz94_2, hcz94_3, hcz94_4, hcz94_5, hfz94_0, hfz94_1, hfz94_2, hfz94_3, hfz94_4, hfz94_5⟩ := b6e BK210
     obtain ⟨Ao95, co95, eo95⟩ := Kd.N_slice HO_216005.out
     subst eo95
     go_wp2
     refine bodyPost_ret (results_ct rfl _ _ gb210 27 #[.int .i64 a1_0, .int .i64 a1_1, .string a2, .string t211, .slice Ao18 t212.length co18, .slice Ao95 x216005_1.length co95] (0, 0) _ rfl (by (with_reducible repeat (first | refine blk_drewN ?_ _ | refine blk_drew ?_ | refine blk_alloc ?_ _)); refine blk_put (cs := #[.int .i64 a1_0, .int .i64 a1_1, .string a2, .string t211, .slice Ao18 t212.length co18, .slice none 0 0]) ?_ 5 _ rfl; (with_reducible repeat (first | refine blk_drewN ?_ _ | refine blk_drew ?_ | refine blk_alloc ?_ _)); refine blk_put (cs := #[.int .i64 a1_0, .int .i64 a1_1, .string a2, .string t211, .slice none 0 0, .slice none 0 0]) ?_ 4 _ rfl; (with_reducible repeat (first | refine blk_drewN ?_ _ | refine blk_drew ?_ | refine blk_alloc ?_ _)); refine blk_put (cs := #[.int .i64 a1_0, .int .i64 a1_1, .string a2, .string (⟨#[]⟩ : ByteArray), .slice none 0 0, .slice none 0 0]) ?_ 3 _ rfl; (with_reducible repeat (first | refine blk_drewN ?_ _ | refine blk_drew ?_ | refine blk_alloc ?_ _)); refine blk_put (cs := #[.int .i64 a1_0, .int .i64 a1_1, .string (⟨#[]⟩ : ByteArray), .string (⟨#[]⟩ : ByteArray), .slice none 0 0, .slice none 0 0]) ?_ 2 _ rfl; (with_reducible repeat (first | refine blk_drewN ?_ _ | refine blk_drew ?_ | refine blk_alloc ?_ _)); refine blk_put (cs := #[.int .i64 a1_0, .int .i64 0, .string (⟨#[]⟩ : ByteArray), .string (⟨#[]⟩ : ByteArray), .slice none 0 0, .slice none 0 0]) ?_ 1 _ rfl; (with_reducible repeat (first | refine blk_drewN ?_ _ | refine blk_drew ?_ | refine blk_alloc ?_ _)); refine blk_put (cs := #[.int .i64 0, .int .i64 0, .string (⟨#[]⟩ : ByteArray), .string (⟨#[]⟩ : ByteArray), .slice none 0 0, .slice none 0 0]) ?_ 0 _ rfl; (with_reducible repeat (first | refine blk_drewN ?_ _ | refine blk_drew ?_ | refine blk_alloc ?_ _)); exact BK210.out) Try.underlying27 rfl (by kernel_rfl)) rfl ?_
     exact ⟨_, _, _, by first | rfl | (simp [errW_none, errW_some] <;> rfl) | (simp [*, errW_none, errW_some] <;> rfl), by (with_reducible repeat (first | apply Kd.R_alloc | apply Kd.R_drewN | apply Kd.R_drew)); exact Kd.R_mono (Kd.R_far (p := ⟨gb210, 5, none⟩) (Kd.R_far (p := ⟨gb210, 4, none⟩) (Kd.R_far (p := ⟨gb210, 3, none⟩) (Kd.R_far (p := ⟨gb210, 2, none⟩) (Kd.R_far (p := ⟨gb210, 1, none⟩) (Kd.R_far (p := ⟨gb210, 0, none⟩) (Kd.R_types HO_216004.out BK210.out (by decide)) (fun _ hk => hk.2) (.int .i64 a1_0)) (fun _ hk => hk.2) (.int .i64 a1_1)) (fun _ hk => hk.2) (.string a2)) (fun _ hk => hk.2) (.string t211)) (fun _ hk => hk.2) (.slice Ao18 t212.length co18)) (fun _ hk => hk.2) (.slice Ao95 x216005_1.length co95)) (fun _ hk => hk.1), by (with_reducible repeat (first | apply Kd.N_alloc | apply Kd.N_drewN | apply Kd.N_drew)); exact Kd.N_mono (Kd.N_far (p := ⟨gb210, 5, none⟩) (Kd.N_far (p := ⟨gb210, 4, none⟩) (Kd.N_far (p := ⟨gb210, 3, none⟩) (Kd.N_far (p := ⟨gb210, 2, none⟩) (Kd.N_far (p := ⟨gb210, 1, none⟩) (Kd.N_far (p := ⟨gb210, 0, none⟩) (Kd.N_mono HO_216005.out (fun k_ hk => (⟨hk, hk.2.2.2.2.2.2.1⟩ : _ ∧ k_ ≠ gb210))) (fun _ hk => hk.2) (.int .i64 a1_0)) (fun _ hk => hk.2) (.int .i64 a1_1)) (fun _ hk => hk.2) (.string a2)) (fun _ hk => hk.2) (.string t211)) (fun _ hk => hk.2) (.slice Ao18 t212.length co18)) (fun _ hk => hk.2) (.slice Ao95 x216005_1.length co95)) (fun _ hk => ⟨hk.1.1, ⟨hk.1.2.2.2.1, hk.1.2.1⟩⟩), by (with_reducible repeat (first | apply Kd.R_alloc | apply Kd.R_drewN | apply Kd.R_drew)); exact Kd.R_mono (Kd.R_far (p := ⟨gb210, 5, none⟩) (Kd.R_far (p := ⟨gb210, 4, none⟩) (Kd.R_far (p := ⟨gb210, 3, none⟩) (Kd.R_far (p := ⟨gb210, 2, none⟩) (Kd.R_far (p := ⟨gb210, 1, none⟩) (Kd.R_far (p := ⟨gb210, 0, none⟩) (Kd.R_types HO_3.out BK210.out (by decide)) (fun _ hk => hk.2) (.int .i64 a1_0)) (fun _ hk => hk.2) (.int .i64 a1_1)) (fun _ hk => hk.2) (.string a2)) (fun _ hk => hk.2) (.string t211)) (fun _ hk => hk.2) (.slice Ao18 t212.length co18)) (fun _ hk => hk.2) (.slice Ao95 x216005_1.length co95)) (fun _ hk => hk.1.1), bS4 HB GE208 GE209 GE210 GE215, kS4 HK GW208 GW209 GW210 GW215⟩
 ·rw [if_neg c7] at H
  exact absurd H (by simp)
def topiaryref15_Of.f (k : Nat) (l0_0 : List (S52)) (l0_1 : List (S97)) (l0_2 : List (S74)) (l0_3 : List (S111)) : Option (Int × Int × ByteArray × ByteArray × (List (S99)) × (List (S27)) × Int) := (topiaryref15_below.f k l0_0 l0_1 l0_2 l0_3 0 0 (⟨#[114, 111, 111, 116]⟩ : ByteArray) (([] : List (S23)))).bind fun bt250 => (if (bt250.2.2.2.2.2.2.length : Int) > 8192 then (some (0, 0, (⟨#[]⟩ : ByteArray), (⟨#[]⟩ : ByteArray), ([] : List (S99)), ([] : List (S27)), 3)) else (some (bt250.1, bt250.2.1, bt250.2.2.1, bt250.2.2.2.1, bt250.2.2.2.2.1, bt250.2.2.2.2.2.1, 0)))
set_option maxHeartbeats 8000000 in
set_option maxRecDepth 100000 in
theorem topiaryref15_Of.calls (k : Nat) (A0_0 : Option Addr) (c0_0 : Nat) (l0_0 : List (S52)) (A0_1 : Option Addr) (c0_1 : Nat) (l0_1 : List (S97)) (A0_2 : Option Addr) (c0_2 : Nat) (l0_2 : List (S74)) (A0_3 : Option Addr) (c0_3 : Nat) (l0_3 : List (S111)) (r1 : Int) (r2 : Int) (r3 : ByteArray) (r4 : ByteArray) (r5 : List (S99)) (r6 : List (S27)) (r7 : Int) (w : World) (hr0_0 : Kd.C k52 w A0_0 l0_0.length l0_0) (hc0_0 : l0_0.length ≤ c0_0) (hr0_1 : Kd.C k97 w A0_1 l0_1.length l0_1) (hc0_1 : l0_1.length ≤ c0_1) (hr0_2 : Kd.C k74 w A0_2 l0_2.length l0_2) (hc0_2 : l0_2.length ≤ c0_2) (hr0_3 : Kd.C k111 w A0_3 l0_3.length l0_3) (hc0_3 : l0_3.length ≤ c0_3) (h : topiaryref15_Of.f k l0_0 l0_1 l0_2 l0_3 = some (r1, r2, r3, r4, r5, r6, r7)) :
  Calls Try.prog 19 #[.agg #[.slice A0_0 l0_0.length c0_0, .slice A0_1 l0_1.length c0_1, .slice A0_2 l0_2.length c0_2, .slice A0_3 l0_3.length c0_3]] w fun e w' => ∃ v4_ v5_ : Value, e = .returned (.tuple #[.agg #[.int .i64 r1, .int .i64 r2, .string r3, .string r4, v4_, v5_], .int .i64 r7]) ∧ Kd.R k99 99 w' w.heap.size (fun k_ => (w.heap.size ≤ k_)) v4_ r5 ∧ Kd.N k27 27 w' w.heap.size (fun k_ => (w.heap.size ≤ k_) ∧ some k_ ≠ (v4_ : Value).ownBlock) v5_ r6 ∧ Below w.heap.size w w' := by
 have hu39 := Try.underlying39
 have hu27 := Try.underlying27
 have hu23 := Try.underlying23
 have HR0_0 := Aside0.mk hr0_0
 have HC0_0 := Aside0.mk hc0_0
 clear hr0_0 hc0_0
 have HR0_1 := Aside0.mk hr0_1
 have HC0_1 := Aside0.mk hc0_1
 clear hr0_1 hc0_1
 have HR0_2 := Aside0.mk hr0_2
 have HC0_2 := Aside0.mk hc0_2
 clear hr0_2 hc0_2
 have HR0_3 := Aside0.mk hr0_3
 have HC0_3 := Aside0.mk hc0_3
 clear hr0_3 hc0_3
 have HB := Aside0.mk (Below.refl w.heap.size w)
 have H : ((topiaryref15_below.f k l0_0 l0_1 l0_2 l0_3 0 0 (⟨#[114, 111, 111, 116]⟩ : ByteArray) (([] : List (S23)))).bind fun bt250 => (if (bt250.2.2.2.2.2.2.length : Int) > 8192 then (some (0, 0, (⟨#[]⟩ : ByteArray), (⟨#[]⟩ : ByteArray), ([] : List (S99)), ([] : List (S27)), 3)) else (some (bt250.1, bt250.2.1, bt250.2.2.1, bt250.2.2.2.1, bt250.2.2.2.2.1, bt250.2.2.2.2.2.1, 0)))) = some (r1, r2, r3, r4, r5, r6, r7) := h
 clear h
 obtain ⟨y247, hy247⟩ : ∃ y_ : List (S23), y_ = (([] : List (S23))) := ⟨_, rfl⟩
 replace H : ((topiaryref15_below.f k l0_0 l0_1 l0_2 l0_3 0 0 (⟨#[114, 111, 111, 116]⟩ : ByteArray) y247).bind fun bt250 => (if (bt250.2.2.2.2.2.2.length : Int) > 8192 then (some (0, 0, (⟨#[]⟩ : ByteArray), (⟨#[]⟩ : ByteArray), ([] : List (S99)), ([] : List (S27)), 3)) else (some (bt250.1, bt250.2.1, bt250.2.2.1, bt250.2.2.2.1, bt250.2.2.2.2.1, bt250.2.2.2.2.2.1, 0)))) = some (r1, r2, r3, r4, r5, r6, r7) := by first | (rw [hy247]; with_reducible exact H) | (have H2_ := (Option.bind_some _ _).symm.trans H; rw [hy247]; with_reducible exact H2_) | (have H2_ := (Option.bind_some _ _).symm.trans H; with_reducible exact H2_) | with_reducible exact H | (rw [hy247]; exact H) | exact H
 have Ny247 := Aside0.mk hy247
 clear hy247
 replace H := Option.bind_eq_some_iff.mp H
 obtain ⟨⟨t250, t251, t252, t253, t254, t257, t260⟩, A20, H⟩ := H
 replace H : (if (t260.length : Int) > 8192 then (some (0, 0, (⟨#[]⟩ : ByteArray), (⟨#[]⟩ : ByteArray), ([] : List (S99)), ([] : List (S27)), 3)) else (some (t250, t251, t252, t253, t254, t257, 0))) = some (r1, r2, r3, r4, r5, r6, r7) := H
 have A2 := Aside0.mk A20
 clear A20
 by_cases c3 : (t260.length : Int) > 8192
 ·rw [if_pos c3] at H
  have c3b0 : decide (8192 < (t260.length : Int)) = true := decide_eq_true c3
  have c3b1 : decide (8192 < t260.length) = true := decide_eq_true (by omega)
  clear c3
  simp only [Option.some.injEq, Prod.mk.injEq] at H
  obtain ⟨rfl, rfl, rfl, rfl, rfl, rfl, rfl⟩ := H
  go_enter Try.func19, Try.ntmps19
  go_wp2_with (first | ((with_reducible refine gate_dst (N := 1) rfl ?_); refine boxE (N := 1) (cs := #[.slice A0_0 l0_0.length c0_0, .slice A0_1 l0_1.length c0_1, .slice A0_2 l0_2.length c0_2, .slice A0_3 l0_3.length c0_3]) (t := 39) ?_; intro gb245 hg w4 hbox hb; have BK245 := Aside0.mk (hbox); have GW245 := Aside0.mk ((by rw [hg]; exact (below_size (bS HB)) : w.heap.size ≤ gb245)); have GE245 := Aside0.mk ((by rw [hg]; exact (below_size (bS HB)) : w.heap.size ≤ gb245)); replace HB := Aside0.mk (below_step (bS HB) hb); clear hb hbox hg) | ((with_reducible refine gate_dst (N := 2) rfl ?_); refine boxE (N := 2) (cs := #[.int .i64 0, .int .i64 0, .string (⟨#[]⟩ : ByteArray), .string (⟨#[]⟩ : ByteArray), .slice none 0 0, .slice none 0 0]) (t := 27) ?_; intro gb246 hg w5 hbox hb; have BK246 := Aside0.mk (hbox); have GW246 := Aside0.mk ((by rw [hg]; exact (below_size (bS1 HB GE245)) : w.heap.size ≤ gb246)); have GE246 := Aside0.mk ((by rw [hg]; exact (below_size (bS1 HB GE245)) : w.heap.size ≤ gb246)); have NB245_246 := nLt BK245 hg; have NB246_245 := nGt BK245 hg; replace BK245 := bB BK245 hb; replace HB := Aside0.mk (below_step (bS1 HB GE245) hb); clear hb hbox hg; have hnb6 := NB245_246.out; have hnc6 := NB246_245.out; have hcz7_0 : w5.cell? ⟨gb245, 0, none⟩ = some (.slice A0_0 l0_0.length c0_0) := (blk_cell BK245.out 0).trans rfl; have hcz7_1 : w5.cell? ⟨gb245, 1, none⟩ = some (.slice A0_1 l0_1.length c0_1) := (blk_cell BK245.out 1).trans rfl; have hcz7_2 : w5.cell? ⟨gb245, 2, none⟩ = some (.slice A0_2 l0_2.length c0_2) := (blk_cell BK245.out 2).trans rfl; have hcz7_3 : w5.cell? ⟨gb245, 3, none⟩ = some (.slice A0_3 l0_3.length c0_3) := (blk_cell BK245.out 3).trans rfl; have hfz7_0 := blk_frozen BK245.out 0; have hfz7_1 := blk_frozen BK245.out 1; have hfz7_2 := blk_frozen BK245.out 2; have hfz7_3 := blk_frozen BK245.out 3) | ((with_reducible refine gate_dst (N := 9) rfl ?_); refine Kd.R_lit k23 _ 23 ?hg (N := 9) ?hd (xs := ([] : List (S23))) (inner := []) (ok := fun _ => True) (okp := fun _ => True) ?hr ?hp (fun _ hk => hk) trivial (Below.refl _ _) (Nat.le_refl _) (by simp) ?_; (case hd => rfl); (case hg => rfl); (case hr => first | (go_simp; done) | (go_simp; rfl)); (case hp => exact (Reps.none _ _)); intro v248 w8 ho9 hb hg_ hnew_; clear hg_ hnew_; (first | rw [← Ny247.out] at ho9 | (simp only [Int.reduceToNat] at ho9; rw [← Ny247.out] at ho9)); have HO249 := Aside0.mk (Kd.R_lower (Kd.R_newM (M := fun k_ => (w.heap.size ≤ k_)) ho9 (below_size (bS2 HB GE245 GE246)) (fun k_ h_ => h_)) (below_size (bS2 HB GE245 GE246))); replace BK245 := bB BK245 hb; replace BK246 := bB BK246 hb; replace HB := Aside0.mk (below_step (bS2 HB GE245 GE246) hb); clear hb ho9; obtain ⟨Ao10, co10, eo10⟩ := Kd.R_slice HO249.out; subst eo10) | ((with_reducible refine gate_callee (f := 51) rfl ?_); refine goesL_ (some 10) rfl rfl Try.func51 (by kernel_rfl) rfl #[.agg #[.slice A0_0 l0_0.length c0_0, .slice A0_1 l0_1.length c0_1, .slice A0_2 l0_2.length c0_2, .slice A0_3 l0_3.length c0_3], .agg #[.int .i64 0, .int .i64 0], .string (⟨#[114, 111, 111, 116]⟩ : ByteArray), .slice Ao10 y247.length co10] rfl argS ?_; (with_reducible refine (topiaryref15_below.calls k _ _ l0_0 _ _ l0_1 _ _ l0_2 _ _ l0_3 0 0 (⟨#[114, 111, 111, 116]⟩ : ByteArray) (fun k_ => some k_ = (.slice Ao10 y247.length co10 : Value).ownBlock) (.slice Ao10 y247.length co10) y247 t250 t251 t252 t253 t254 t257 t260 w _ ?side1 ?side2 ?side3 ?side4 ?side5 ?side6 ?side7 ?side8 ?side9 ?side10 A2.out).mono ?_); (case side1 => repeat (first | (with_reducible first | exact HB.out | apply below_alloc | apply pw_below_drewN | apply below_drew1 | refine below_set ?_ GE245.out | refine below_set ?_ GE246.out) | exact HB.out)); (case side2 => exact Kd.C_kept_came k52_heap HR0_0.out (bS2 HB GE245 GE246) (fun k_ hs_ => (fun e_ => Kd.R_base HO249.out k_ e_.symm) hs_)); (case side3 => exact HC0_0.out); (case side4 => exact Kd.C_kept_came k97_heap HR0_1.out (bS2 HB GE245 GE246) (fun k_ hs_ => (fun e_ => Kd.R_base HO249.out k_ e_.symm) hs_)); (case side5 => exact HC0_1.out); (case side6 => exact Kd.C_kept_came k74_heap HR0_2.out (bS2 HB GE245 GE246) (fun k_ hs_ => (fun e_ => Kd.R_base HO249.out k_ e_.symm) hs_)); (case side7 => exact HC0_2.out); (case side8 => exact Kd.C_kept_came k111_heap HR0_3.out (bS2 HB GE245 GE246) (fun k_ hs_ => (fun e_ => Kd.R_base HO249.out k_ e_.symm) hs_)); (case side9 => exact HC0_3.out); (case side10 => exact Kd.R_tight rfl HO249.out); rintro e w11 ⟨v255, v258, v261, rfl, ho0, ho1, ho2, hb, hkp⟩; refine ⟨_, rfl, ?_⟩; have n0_ := Aside0.mk (blk_kept (blkS BK245) hkp (fun hs_ => (fun e_ => (Kd.R_ne HO249.out BK245.out (by decide)) e_) hs_)); have n1_ := Aside0.mk (blk_kept (blkS BK246) hkp (fun hs_ => (fun e_ => (Kd.R_ne HO249.out BK246.out (by decide)) e_) hs_)); have n2_ := Aside0.mk (Kd.R_mono (ok' := fun k_ => (w.heap.size ≤ k_)) ho0 (fun k_ hk_ => Or.elim hk_ (fun hs_ => (HO249.out.1 k_ (hs_).symm).1) (fun hn_ => (Nat.le_trans (below_size (bS2 HB GE245 GE246)) hn_)))); have n3_ := Aside0.mk (Kd.N_lower (Kd.N_mono (ok' := fun k_ => (w.heap.size ≤ k_) ∧ some k_ ≠ (v255 : Value).ownBlock ∧ some k_ ≠ (v261 : Value).ownBlock ∧ k_ ≠ gb245 ∧ k_ ≠ gb246) ho1 (fun k_ hk_ => ⟨Or.elim hk_.1 (fun hs_ => (HO249.out.1 k_ (hs_).symm).1) (fun hn_ => (Nat.le_trans (below_size (bS2 HB GE245 GE246)) hn_)), hk_.2.1, hk_.2.2, Or.elim hk_.1 (fun hs_ => fun e_ => (Kd.R_ne HO249.out BK245.out (by decide)) (by rw [← e_]; exact hs_)) (fun hn_ => (Kd.freshB (g := gb245) (o := .cells #[.slice A0_0 l0_0.length c0_0, .slice A0_1 l0_1.length c0_1, .slice A0_2 l0_2.length c0_2, .slice A0_3 l0_3.length c0_3] 39 (0, 0)) (blkS BK245) k_ hn_)), Or.elim hk_.1 (fun hs_ => fun e_ => (Kd.R_ne HO249.out BK246.out (by decide)) (by rw [← e_]; exact hs_)) (fun hn_ => (Kd.freshB (g := gb246) (o := .cells #[.int .i64 0, .int .i64 0, .string (⟨#[]⟩ : ByteArray), .string (⟨#[]⟩ : ByteArray), .slice none 0 0, .slice none 0 0] 27 (0, 0)) (blkS BK246) k_ hn_))⟩)) (below_size (bS2 HB GE245 GE246))); have n4_ := Aside0.mk (Kd.R_mono (ok' := fun k_ => (w.heap.size ≤ k_)) ho2 (fun k_ hk_ => Or.elim hk_ (fun hs_ => (HO249.out.1 k_ (hs_).symm).1) (fun hn_ => (Nat.le_trans (below_size (bS2 HB GE245 GE246)) hn_)))); have n5_ := Aside0.mk (hb); clear BK245; clear BK246; clear HB; clear HO249; have BK245 := n0_; have BK246 := n1_; have HO256 := n2_; have HO259 := n3_; have HO262 := n4_; have HB := n5_; clear n0_ n1_ n2_ n3_ n4_ n5_; (try clear hb); (try clear hkp); (try clear ho0); (try clear ho1); (try clear ho2)) | ((with_reducible refine gate_dst (N := 4) rfl ?_); refine boxE (N := 4) (cs := #[.int .i64 0, .int .i64 0, .string (⟨#[]⟩ : ByteArray), .string (⟨#[]⟩ : ByteArray), .slice none 0 0, .slice none 0 0]) (t := 27) ?_; intro gb263 hg w12 hbox hb; have BK263 := Aside0.mk (hbox); have GW263 := Aside0.mk ((by rw [hg]; exact (below_size (bS2 HB GE245 GE246)) : w.heap.size ≤ gb263)); have GE263 := Aside0.mk ((by rw [hg]; exact (below_size (bS2 HB GE245 GE246)) : w.heap.size ≤ gb263)); have NB245_263 := nLt BK245 hg; have NB263_245 := nGt BK245 hg; have NB246_263 := nLt BK246 hg; have NB263_246 := nGt BK246 hg; replace HO256 := Aside0.mk (Kd.R_below (RS HO256) hb); replace HO259 := Aside0.mk (Kd.N_below (Kd.N_elderB (NS HO259) gb263 (Nat.le_of_eq hg.symm)) hb); replace HO262 := Aside0.mk (Kd.R_below (RS HO262) hb); replace BK245 := bB BK245 hb; replace BK246 := bB BK246 hb; replace HB := Aside0.mk (below_step (bS2 HB GE245 GE246) hb); clear hb hbox hg; have hnb13 := NB263_245.out; have hnc13 := NB245_263.out; have hnb14 := NB263_246.out; have hnc14 := NB246_263.out; obtain ⟨hcz15_0, hcz15_1, hcz15_2, hcz15_3, hcz15_4, hcz15_5, hfz15_0, hfz15_1, hfz15_2, hfz15_3, hfz15_4, hfz15_5⟩ := b6e BK263; obtain ⟨Ao16, co16, eo16⟩ := Kd.R_slice HO256.out; subst eo16; obtain ⟨Ao17, co17, eo17⟩ := Kd.N_slice HO259.out; subst eo17; obtain ⟨Ao18, co18, eo18⟩ := Kd.R_slice HO262.out; subst eo18; have hcz19_0 : w12.cell? ⟨gb246, 0, none⟩ = some (.int .i64 0) := (blk_cell BK246.out 0).trans rfl; have hcz19_1 : w12.cell? ⟨gb246, 1, none⟩ = some (.int .i64 0) := (blk_cell BK246.out 1).trans rfl; have hcz19_2 : w12.cell? ⟨gb246, 2, none⟩ = some (.string (⟨#[]⟩ : ByteArray)) := (blk_cell BK246.out 2).trans rfl; have hcz19_3 : w12.cell? ⟨gb246, 3, none⟩ = some (.string (⟨#[]⟩ : ByteArray)) := (blk_cell BK246.out 3).trans rfl; have hcz19_4 : w12.cell? ⟨gb246, 4, none⟩ = some (.slice none 0 0) := (blk_cell BK246.out 4).trans rfl; have hcz19_5 : w12.cell? ⟨gb246, 5, none⟩ = some (.slice none 0 0) := (blk_cell BK246.out 5).trans rfl; have hfz19_0 := blk_frozen BK246.out 0; have hfz19_1 := blk_frozen BK246.out 1; have hfz19_2 := blk_frozen BK246.out 2; have hfz19_3 := blk_frozen BK246.out 3; have hfz19_4 := blk_frozen BK246.out 4; have hfz19_5 := blk_frozen BK246.out 5))
  refine bodyPost_ret (results_ct rfl _ _ gb246 27 #[.int .i64 0, .int .i64 0, .string (⟨#[]⟩ : ByteArray), .string (⟨#[]⟩ : ByteArray), .slice none 0 0, .slice none 0 0] (0, 0) _ rfl (by (with_reducible repeat (first | refine blk_drewN ?_ _ | refine blk_drew ?_ | refine blk_alloc ?_ _)); refine blk_put (cs := #[.int .i64 0, .int .i64 0, .string (⟨#[]⟩ : ByteArray), .string (⟨#[]⟩ : ByteArray), .slice none 0 0, .slice none 0 0]) ?_ 5 _ rfl; (with_reducible repeat (first | refine blk_drewN ?_ _ | refine blk_drew ?_ | refine blk_alloc ?_ _)); refine blk_put (cs := #[.int .i64 0, .int .i64 0, .string (⟨#[]⟩ : ByteArray), .string (⟨#[]⟩ : ByteArray), .slice none 0 0, .slice none 0 0]) ?_ 4 _ rfl; (with_reducible repeat (first | refine blk_drewN ?_ _ | refine blk_drew ?_ | refine blk_alloc ?_ _)); refine blk_put (cs := #[.int .i64 0, .int .i64 0, .string (⟨#[]⟩ : ByteArray), .string (⟨#[]⟩ : ByteArray), .slice none 0 0, .slice none 0 0]) ?_ 3 _ rfl; (with_reducible repeat (first | refine blk_drewN ?_ _ | refine blk_drew ?_ | refine blk_alloc ?_ _)); refine blk_put (cs := #[.int .i64 0, .int .i64 0, .string (⟨#[]⟩ : ByteArray), .string (⟨#[]⟩ : ByteArray), .slice none 0 0, .slice none 0 0]) ?_ 2 _ rfl; (with_reducible repeat (first | refine blk_drewN ?_ _ | refine blk_drew ?_ | refine blk_alloc ?_ _)); refine blk_put (cs := #[.int .i64 0, .int .i64 0, .string (⟨#[]⟩ : ByteArray), .string (⟨#[]⟩ : ByteArray), .slice none 0 0, .slice none 0 0]) ?_ 1 _ rfl; (with_reducible repeat (first | refine blk_drewN ?_ _ | refine blk_drew ?_ | refine blk_alloc ?_ _)); refine blk_put (cs := #[.int .i64 0, .int .i64 0, .string (⟨#[]⟩ : ByteArray), .string (⟨#[]⟩ : ByteArray), .slice none 0 0, .slice none 0 0]) ?_ 0 _ rfl; (with_reducible repeat (first | refine blk_drewN ?_ _ | refine blk_drew ?_ | refine blk_alloc ?_ _)); refine blk_far ?_ NB246_263.out _; (with_reducible repeat (first | refine blk_drewN ?_ _ | refine blk_drew ?_ | refine blk_alloc ?_ _)); refine blk_far ?_ NB246_263.out _; (with_reducible repeat (first | refine blk_drewN ?_ _ | refine blk_drew ?_ | refine blk_alloc ?_ _)); refine blk_far ?_ NB246_263.out _; (with_reducible repeat (first | refine blk_drewN ?_ _ | refine blk_drew ?_ | refine blk_alloc ?_ _)); refine blk_far ?_ NB246_263.out _; (with_reducible repeat (first | refine blk_drewN ?_ _ | refine blk_drew ?_ | refine blk_alloc ?_ _)); refine blk_far ?_ NB246_263.out _; (with_reducible repeat (first | refine blk_drewN ?_ _ | refine blk_drew ?_ | refine blk_alloc ?_ _)); refine blk_far ?_ NB246_263.out _; (with_reducible repeat (first | refine blk_drewN ?_ _ | refine blk_drew ?_ | refine blk_alloc ?_ _)); exact BK246.out) Try.underlying27 rfl (by kernel_rfl)) rfl ?_
  exact ⟨_, _, by first | rfl | (simp [errW_none, errW_some] <;> rfl) | (simp [*, errW_none, errW_some] <;> rfl), by first | exact Kd.R_nil _ _ _ _ _ | exact Kd.N_nil _ _ _ _ _ | exact Kd.V_nil _ _ _ _ _ | exact Kd.Q_nil _ _ _ _ _ | exact Kd.S_nil _ _ _ _ _, by first | exact Kd.R_nil _ _ _ _ _ | exact Kd.N_nil _ _ _ _ _ | exact Kd.V_nil _ _ _ _ _ | exact Kd.Q_nil _ _ _ _ _ | exact Kd.S_nil _ _ _ _ _, bS3 HB GE245 GE246 GE263⟩
 ·rw [if_neg c3] at H
  have c3b0 : decide (8192 < (t260.length : Int)) = false := decide_eq_false c3
  have c3b1 : decide (8192 < t260.length) = false := decide_eq_false (by omega)
  clear c3
  simp only [Option.some.injEq, Prod.mk.injEq] at H
  obtain ⟨rfl, rfl, rfl, rfl, rfl, rfl, rfl⟩ := H
  go_enter Try.func19, Try.ntmps19
  go_wp2_with (first | ((with_reducible refine gate_dst (N := 1) rfl ?_); refine boxE (N := 1) (cs := #[.slice A0_0 l0_0.length c0_0, .slice A0_1 l0_1.length c0_1, .slice A0_2 l0_2.length c0_2, .slice A0_3 l0_3.length c0_3]) (t := 39) ?_; intro gb245 hg w20 hbox hb; have BK245 := Aside0.mk (hbox); have GW245 := Aside0.mk ((by rw [hg]; exact (below_size (bS HB)) : w.heap.size ≤ gb245)); have GE245 := Aside0.mk ((by rw [hg]; exact (below_size (bS HB)) : w.heap.size ≤ gb245)); replace HB := Aside0.mk (below_step (bS HB) hb); clear hb hbox hg) | ((with_reducible refine gate_dst (N := 2) rfl ?_); refine boxE (N := 2) (cs := #[.int .i64 0, .int .i64 0, .string (⟨#[]⟩ : ByteArray), .string (⟨#[]⟩ : ByteArray), .slice none 0 0, .slice none 0 0]) (t := 27) ?_; intro gb246 hg w21 hbox hb; have BK246 := Aside0.mk (hbox); have GW246 := Aside0.mk ((by rw [hg]; exact (below_size (bS1 HB GE245)) : w.heap.size ≤ gb246)); have GE246 := Aside0.mk ((by rw [hg]; exact (below_size (bS1 HB GE245)) : w.heap.size ≤ gb246)); have NB245_246 := nLt BK245 hg; have NB246_245 := nGt BK245 hg; replace BK245 := bB BK245 hb; replace HB := Aside0.mk (below_step (bS1 HB GE245) hb); clear hb hbox hg; have hnb22 := NB245_246.out; have hnc22 := NB246_245.out; have hcz23_0 : w21.cell? ⟨gb245, 0, none⟩ = some (.slice A0_0 l0_0.length c0_0) := (blk_cell BK245.out 0).trans rfl; have hcz23_1 : w21.cell? ⟨gb245, 1, none⟩ = some (.slice A0_1 l0_1.length c0_1) := (blk_cell BK245.out 1).trans rfl; have hcz23_2 : w21.cell? ⟨gb245, 2, none⟩ = some (.slice A0_2 l0_2.length c0_2) := (blk_cell BK245.out 2).trans rfl; have hcz23_3 : w21.cell? ⟨gb245, 3, none⟩ = some (.slice A0_3 l0_3.length c0_3) := (blk_cell BK245.out 3).trans rfl; have hfz23_0 := blk_frozen BK245.out 0; have hfz23_1 := blk_frozen BK245.out 1; have hfz23_2 := blk_frozen BK245.out 2; have hfz23_3 := blk_frozen BK245.out 3) | ((with_reducible refine gate_dst (N := 9) rfl ?_); refine Kd.R_lit k23 _ 23 ?hg (N := 9) ?hd (xs := ([] : List (S23))) (inner := []) (ok := fun _ => True) (okp := fun _ => True) ?hr ?hp (fun _ hk => hk) trivial (Below.refl _ _) (Nat.le_refl _) (by simp) ?_; (case hd => rfl); (case hg => rfl); (case hr => first | (go_simp; done) | (go_simp; rfl)); (case hp => exact (Reps.none _ _)); intro v248 w24 ho25 hb hg_ hnew_; clear hg_ hnew_; (first | rw [← Ny247.out] at ho25 | (simp only [Int.reduceToNat] at ho25; rw [← Ny247.out] at ho25)); have HO249 := Aside0.mk (Kd.R_lower (Kd.R_newM (M := fun k_ => (w.heap.size ≤ k_)) ho25 (below_size (bS2 HB GE245 GE246)) (fun k_ h_ => h_)) (below_size (bS2 HB GE245 GE246))); replace BK245 := bB BK245 hb; replace BK246 := bB BK246 hb; replace HB := Aside0.mk (below_step (bS2 HB GE245 GE246) hb); clear hb ho25; obtain ⟨Ao26, co26, eo26⟩ := Kd.R_slice HO249.out; subst eo26) | ((with_reducible refine gate_callee (f := 51) rfl ?_); refine goesL_ (some 10) rfl rfl Try.func51 (by kernel_rfl) rfl #[.agg #[.slice A0_0 l0_0.length c0_0, .slice A0_1 l0_1.length c0_1, .slice A0_2 l0_2.length c0_2, .slice A0_3 l0_3.length c0_3], .agg #[.int .i64 0, .int .i64 0], .string (⟨#[114, 111, 111, 116]⟩ : ByteArray), .slice Ao26 y247.length co26] rfl argS ?_; (with_reducible refine (topiaryref15_below.calls k _ _ l0_0 _ _ l0_1 _ _ l0_2 _ _ l0_3 0 0 (⟨#[114, 111, 111, 116]⟩ : ByteArray) (fun k_ => some k_ = (.slice Ao26 y247.length co26 : Value).ownBlock) (.slice Ao26 y247.length co26) y247 t250 t251 t252 t253 t254 t257 t260 w _ ?side1 ?side2 ?side3 ?side4 ?side5 ?side6 ?side7 ?side8 ?side9 ?side10 A2.out).mono ?_); (case side1 => repeat (first | (with_reducible first | exact HB.out | apply below_alloc | apply pw_below_drewN | apply below_drew1 | refine below_set ?_ GE245.out | refine below_set ?_ GE246.out) | exact HB.out)); (case side2 => exact Kd.C_kept_came k52_heap HR0_0.out (bS2 HB GE245 GE246) (fun k_ hs_ => (fun e_ => Kd.R_base HO249.out k_ e_.symm) hs_)); (case side3 => exact HC0_0.out); (case side4 => exact Kd.C_kept_came k97_heap HR0_1.out (bS2 HB GE245 GE246) (fun k_ hs_ => (fun e_ => Kd.R_base HO249.out k_ e_.symm) hs_)); (case side5 => exact HC0_1.out); (case side6 => exact Kd.C_kept_came k74_heap HR0_2.out (bS2 HB GE245 GE246) (fun k_ hs_ => (fun e_ => Kd.R_base HO249.out k_ e_.symm) hs_)); (case side7 => exact HC0_2.out); (case side8 => exact Kd.C_kept_came k111_heap HR0_3.out (bS2 HB GE245 GE246) (fun k_ hs_ => (fun e_ => Kd.R_base HO249.out k_ e_.symm) hs_)); (case side9 => exact HC0_3.out); (case side10 => exact Kd.R_tight rfl HO249.out); rintro e w27 ⟨v255, v258, v261, rfl, ho0, ho1, ho2, hb, hkp⟩; refine ⟨_, rfl, ?_⟩; have n0_ := Aside0.mk (blk_kept (blkS BK245) hkp (fun hs_ => (fun e_ => (Kd.R_ne HO249.out BK245.out (by decide)) e_) hs_)); have n1_ := Aside0.mk (blk_kept (blkS BK246) hkp (fun hs_ => (fun e_ => (Kd.R_ne HO249.out BK246.out (by decide)) e_) hs_)); have n2_ := Aside0.mk (Kd.R_mono (ok' := fun k_ => (w.heap.size ≤ k_)) ho0 (fun k_ hk_ => Or.elim hk_ (fun hs_ => (HO249.out.1 k_ (hs_).symm).1) (fun hn_ => (Nat.le_trans (below_size (bS2 HB GE245 GE246)) hn_)))); have n3_ := Aside0.mk (Kd.N_lower (Kd.N_mono (ok' := fun k_ => (w.heap.size ≤ k_) ∧ some k_ ≠ (v255 : Value).ownBlock ∧ some k_ ≠ (v261 : Value).ownBlock ∧ k_ ≠ gb245 ∧ k_ ≠ gb246) ho1 (fun k_ hk_ => ⟨Or.elim hk_.1 (fun hs_ => (HO249.out.1 k_ (hs_).symm).1) (fun hn_ => (Nat.le_trans (below_size (bS2 HB GE245 GE246)) hn_)), hk_.2.1, hk_.2.2, Or.elim hk_.1 (fun hs_ => fun e_ => (Kd.R_ne HO249.out BK245.out (by decide)) (by rw [← e_]; exact hs_)) (fun hn_ => (Kd.freshB (g := gb245) (o := .cells #[.slice A0_0 l0_0.length c0_0, .slice A0_1 l0_1.length c0_1, .slice A0_2 l0_2.length c0_2, .slice A0_3 l0_3.length c0_3] 39 (0, 0)) (blkS BK245) k_ hn_)), Or.elim hk_.1 (fun hs_ => fun e_ => (Kd.R_ne HO249.out BK246.out (by decide)) (by rw [← e_]; exact hs_)) (fun hn_ => (Kd.freshB (g := gb246) (o := .cells #[.int .i64 0, .int .i64 0, .string (⟨#[]⟩ : ByteArray), .string (⟨#[]⟩ : ByteArray), .slice none 0 0, .slice none 0 0] 27 (0, 0)) (blkS BK246) k_ hn_))⟩)) (below_size (bS2 HB GE245 GE246))); have n4_ := Aside0.mk (Kd.R_mono (ok' := fun k_ => (w.heap.size ≤ k_)) ho2 (fun k_ hk_ => Or.elim hk_ (fun hs_ => (HO249.out.1 k_ (hs_).symm).1) (fun hn_ => (Nat.le_trans (below_size (bS2 HB GE245 GE246)) hn_)))); have n5_ := Aside0.mk (hb); clear BK245; clear BK246; clear HB; clear HO249; have BK245 := n0_; have BK246 := n1_; have HO256 := n2_; have HO259 := n3_; have HO262 := n4_; have HB := n5_; clear n0_ n1_ n2_ n3_ n4_ n5_; (try clear hb); (try clear hkp); (try clear ho0); (try clear ho1); (try clear ho2)) | ((with_reducible refine gate_dst (N := 4) rfl ?_); refine boxE (N := 4) (cs := #[.int .i64 0, .int .i64 0, .string (⟨#[]⟩ : ByteArray), .string (⟨#[]⟩ : ByteArray), .slice none 0 0, .slice none 0 0]) (t := 27) ?_; intro gb263 hg w28 hbox hb; have BK263 := Aside0.mk (hbox); have GW263 := Aside0.mk ((by rw [hg]; exact (below_size (bS2 HB GE245 GE246)) : w.heap.size ≤ gb263)); have GE263 := Aside0.mk ((by rw [hg]; exact (below_size (bS2 HB GE245 GE246)) : w.heap.size ≤ gb263)); have NB245_263 := nLt BK245 hg; have NB263_245 := nGt BK245 hg; have NB246_263 := nLt BK246 hg; have NB263_246 := nGt BK246 hg; replace HO256 := Aside0.mk (Kd.R_below (RS HO256) hb); replace HO259 := Aside0.mk (Kd.N_below (Kd.N_elderB (NS HO259) gb263 (Nat.le_of_eq hg.symm)) hb); replace HO262 := Aside0.mk (Kd.R_below (RS HO262) hb); replace BK245 := bB BK245 hb; replace BK246 := bB BK246 hb; replace HB := Aside0.mk (below_step (bS2 HB GE245 GE246) hb); clear hb hbox hg; have hnb29 := NB263_245.out; have hnc29 := NB245_263.out; have hnb30 := NB263_246.out; have hnc30 := NB246_263.out; obtain ⟨hcz31_0, hcz31_1, hcz31_2, hcz31_3, hcz31_4, hcz31_5, hfz31_0, hfz31_1, hfz31_2, hfz31_3, hfz31_4, hfz31_5⟩ := b6e BK263; obtain ⟨Ao32, co32, eo32⟩ := Kd.R_slice HO256.out; subst eo32; obtain ⟨Ao33, co33, eo33⟩ := Kd.N_slice HO259.out; subst eo33; obtain ⟨Ao34, co34, eo34⟩ := Kd.R_slice HO262.out; subst eo34; have hcz35_0 : w28.cell? ⟨gb246, 0, none⟩ = some (.int .i64 0) := (blk_cell BK246.out 0).trans rfl; have hcz35_1 : w28.cell? ⟨gb246, 1, none⟩ = some (.int .i64 0) := (blk_cell BK246.out 1).trans rfl; have hcz35_2 : w28.cell? ⟨gb246, 2, none⟩ = some (.string (⟨#[]⟩ : ByteArray)) := (blk_cell BK246.out 2).trans rfl; have hcz35_3 : w28.cell? ⟨gb246, 3, none⟩ = some (.string (⟨#[]⟩ : ByteArray)) := (blk_cell BK246.out 3).trans rfl; have hcz35_4 : w28.cell? ⟨gb246, 4, none⟩ = some (.slice none 0 0) := (blk_cell BK246.out 4).trans rfl; have hcz35_5 : w28.cell? ⟨gb246, 5, none⟩ = some (.slice none 0 0) := (blk_cell BK246.out 5).trans rfl; have hfz35_0 := blk_frozen BK246.out 0; have hfz35_1 := blk_frozen BK246.out 1; have hfz35_2 := blk_frozen BK246.out 2; have hfz35_3 := blk_frozen BK246.out 3; have hfz35_4 := blk_frozen BK246.out 4; have hfz35_5 := blk_frozen BK246.out 5))
  refine bodyPost_ret (results_ct rfl _ _ gb246 27 #[.int .i64 t250, .int .i64 t251, .string t252, .string t253, .slice Ao32 t254.length co32, .slice Ao33 t257.length co33] (0, 0) _ rfl (by (with_reducible repeat (first | refine blk_drewN ?_ _ | refine blk_drew ?_ | refine blk_alloc ?_ _)); refine blk_put (cs := #[.int .i64 t250, .int .i64 t251, .string t252, .string t253, .slice Ao32 t254.length co32, .slice none 0 0]) ?_ 5 _ rfl; (with_reducible repeat (first | refine blk_drewN ?_ _ | refine blk_drew ?_ | refine blk_alloc ?_ _)); refine blk_put (cs := #[.int .i64 t250, .int .i64 t251, .string t252, .string t253, .slice none 0 0, .slice none 0 0]) ?_ 4 _ rfl; (with_reducible repeat (first | refine blk_drewN ?_ _ | refine blk_drew ?_ | refine blk_alloc ?_ _)); refine blk_put (cs := #[.int .i64 t250, .int .i64 t251, .string t252, .string (⟨#[]⟩ : ByteArray), .slice none 0 0, .slice none 0 0]) ?_ 3 _ rfl; (with_reducible repeat (first | refine blk_drewN ?_ _ | refine blk_drew ?_ | refine blk_alloc ?_ _)); refine blk_put (cs := #[.int .i64 t250, .int .i64 t251, .string (⟨#[]⟩ : ByteArray), .string (⟨#[]⟩ : ByteArray), .slice none 0 0, .slice none 0 0]) ?_ 2 _ rfl; (with_reducible repeat (first | refine blk_drewN ?_ _ | refine blk_drew ?_ | refine blk_alloc ?_ _)); refine blk_put (cs := #[.int .i64 t250, .int .i64 0, .string (⟨#[]⟩ : ByteArray), .string (⟨#[]⟩ : ByteArray), .slice none 0 0, .slice none 0 0]) ?_ 1 _ rfl; (with_reducible repeat (first | refine blk_drewN ?_ _ | refine blk_drew ?_ | refine blk_alloc ?_ _)); refine blk_put (cs := #[.int .i64 0, .int .i64 0, .string (⟨#[]⟩ : ByteArray), .string (⟨#[]⟩ : ByteArray), .slice none 0 0, .slice none 0 0]) ?_ 0 _ rfl; (with_reducible repeat (first | refine blk_drewN ?_ _ | refine blk_drew ?_ | refine blk_alloc ?_ _)); refine blk_far ?_ NB246_263.out _; (with_reducible repeat (first | refine blk_drewN ?_ _ | refine blk_drew ?_ | refine blk_alloc ?_ _)); refine blk_far ?_ NB246_263.out _; (with_reducible repeat (first | refine blk_drewN ?_ _ | refine blk_drew ?_ | refine blk_alloc ?_ _)); refine blk_far ?_ NB246_263.out _; (with_reducible repeat (first | refine blk_drewN ?_ _ | refine blk_drew ?_ | refine blk_alloc ?_ _)); refine blk_far ?_ NB246_263.out _; (with_reducible repeat (first | refine blk_drewN ?_ _ | refine blk_drew ?_ | refine blk_alloc ?_ _)); refine blk_far ?_ NB246_263.out _; (with_reducible repeat (first | refine blk_drewN ?_ _ | refine blk_drew ?_ | refine blk_alloc ?_ _)); refine blk_far ?_ NB246_263.out _; (with_reducible repeat (first | refine blk_drewN ?_ _ | refine blk_drew ?_ | refine blk_alloc ?_ _)); exact BK246.out) Try.underlying27 rfl (by kernel_rfl)) rfl ?_
  exact ⟨_, _, by first | rfl | (simp [errW_none, errW_some] <;> rfl) | (simp [*, errW_none, errW_some] <;> rfl), by (with_reducible repeat (first | apply Kd.R_alloc | apply Kd.R_drewN | apply Kd.R_drew)); exact Kd.R_mono (Kd.R_far (p := ⟨gb246, 5, none⟩) (Kd.R_far (p := ⟨gb246, 4, none⟩) (Kd.R_far (p := ⟨gb246, 3, none⟩) (Kd.R_far (p := ⟨gb246, 2, none⟩) (Kd.R_far (p := ⟨gb246, 1, none⟩) (Kd.R_far (p := ⟨gb246, 0, none⟩) (Kd.R_far (p := ⟨gb263, 5, none⟩) (Kd.R_far (p := ⟨gb263, 4, none⟩) (Kd.R_far (p := ⟨gb263, 3, none⟩) (Kd.R_far (p := ⟨gb263, 2, none⟩) (Kd.R_far (p := ⟨gb263, 1, none⟩) (Kd.R_far (p := ⟨gb263, 0, none⟩) (Kd.R_types (Kd.R_types HO256.out BK263.out (by decide)) BK246.out (by decide)) (fun _ hk => hk.1.2) (.int .i64 t250)) (fun _ hk => hk.1.2) (.int .i64 t251)) (fun _ hk => hk.1.2) (.string t252)) (fun _ hk => hk.1.2) (.string t253)) (fun _ hk => hk.1.2) (.slice Ao32 t254.length co32)) (fun _ hk => hk.1.2) (.slice Ao33 t257.length co33)) (fun _ hk => hk.2) (.int .i64 t250)) (fun _ hk => hk.2) (.int .i64 t251)) (fun _ hk => hk.2) (.string t252)) (fun _ hk => hk.2) (.string t253)) (fun _ hk => hk.2) (.slice Ao32 t254.length co32)) (fun _ hk => hk.2) (.slice Ao33 t257.length co33)) (fun _ hk => hk.1.1), by (with_reducible repeat (first | apply Kd.N_alloc | apply Kd.N_drewN | apply Kd.N_drew)); exact Kd.N_mono (Kd.N_far (p := ⟨gb246, 5, none⟩) (Kd.N_far (p := ⟨gb246, 4, none⟩) (Kd.N_far (p := ⟨gb246, 3, none⟩) (Kd.N_far (p := ⟨gb246, 2, none⟩) (Kd.N_far (p := ⟨gb246, 1, none⟩) (Kd.N_far (p := ⟨gb246, 0, none⟩) (Kd.N_far (p := ⟨gb263, 5, none⟩) (Kd.N_far (p := ⟨gb263, 4, none⟩) (Kd.N_far (p := ⟨gb263, 3, none⟩) (Kd.N_far (p := ⟨gb263, 2, none⟩) (Kd.N_far (p := ⟨gb263, 1, none⟩) (Kd.N_far (p := ⟨gb263, 0, none⟩) (Kd.N_mono (Kd.N_mono HO259.out (fun k_ hk => (⟨hk, hk.2⟩ : _ ∧ k_ ≠ gb263))) (fun k_ hk => (⟨hk, hk.1.1.2.2.2.2⟩ : _ ∧ k_ ≠ gb246))) (fun _ hk => hk.1.2) (.int .i64 t250)) (fun _ hk => hk.1.2) (.int .i64 t251)) (fun _ hk => hk.1.2) (.string t252)) (fun _ hk => hk.1.2) (.string t253)) (fun _ hk => hk.1.2) (.slice Ao32 t254.length co32)) (fun _ hk => hk.1.2) (.slice Ao33 t257.length co33)) (fun _ hk => hk.2) (.int .i64 t250)) (fun _ hk => hk.2) (.int .i64 t251)) (fun _ hk => hk.2) (.string t252)) (fun _ hk => hk.2) (.string t253)) (fun _ hk => hk.2) (.slice Ao32 t254.length co32)) (fun _ hk => hk.2) (.slice Ao33 t257.length co33)) (fun _ hk => ⟨hk.1.1.1.1, hk.1.1.1.2.1⟩), bS3 HB GE245 GE246 GE263⟩
def topiarylaw15_light.l0 : Nat → Int → Int → List (S52) → List (S97) → List (S74) → List (S111) → Option (Bool)
 | 0, _, _, _, _, _, _ => none
 | k + 1, x3, x4, x126000, x126001, x126002, x126003 => if x4 < (x126002.length : Int) then (if 0 ≤ x4 then (if (wrap64 (x3 + (((rd_T74 x126002 x4).f1).length : Int))) > 600 then (some false) else (topiarylaw15_light.l0 k (wrap64 (x3 + (((rd_T74 x126002 x4).f1).length : Int))) (wrap64 (x4 + 1)) x126000 x126001 x126002 x126003)) else (none)) else (if (x126001.length : Int) ≤ 600 then (if (x126002.length : Int) ≤ 600 then (if (x126000.length : Int) ≤ 600 then (some (decide ((x126003.length : Int) ≤ 600))) else (some false)) else (some false)) else (some false))
def topiarylaw15_light.f (k : Nat) (l0_0 : List (S52)) (l0_1 : List (S97)) (l0_2 : List (S74)) (l0_3 : List (S111)) : Option (Bool) := topiarylaw15_light.l0 k 0 0 l0_0 l0_1 l0_2 l0_3
set_option maxHeartbeats 8000000 in
set_option maxRecDepth 100000 in
theorem topiarylaw15_light.calls (k : Nat) (A0_0 : Option Addr) (c0_0 : Nat) (l0_0 : List (S52)) (A0_1 : Option Addr) (c0_1 : Nat) (l0_1 : List (S97)) (A0_2 : Option Addr) (c0_2 : Nat) (l0_2 : List (S74)) (A0_3 : Option Addr) (c0_3 : Nat) (l0_3 : List (S111)) (r : Bool) (w : World) (hr0_0 : Kd.C k52 w A0_0 l0_0.length l0_0) (hc0_0 : l0_0.length ≤ c0_0) (hr0_1 : Kd.C k97 w A0_1 l0_1.length l0_1) (hc0_1 : l0_1.length ≤ c0_1) (hr0_2 : Kd.C k74 w A0_2 l0_2.length l0_2) (hc0_2 : l0_2.length ≤ c0_2) (hr0_3 : Kd.C k111 w A0_3 l0_3.length l0_3) (hc0_3 : l0_3.length ≤ c0_3) (h : topiarylaw15_light.f k l0_0 l0_1 l0_2 l0_3 = some r) :
  Calls Try.prog 16 #[.agg #[.slice A0_0 l0_0.length c0_0, .slice A0_1 l0_1.length c0_1, .slice A0_2 l0_2.length c0_2, .slice A0_3 l0_3.length c0_3]] w fun e w' => e = .returned (.bool r) ∧ Below w.heap.size w w' := by
 have hu39 := Try.underlying39
 have HR0_0 := Aside0.mk hr0_0
 have HC0_0 := Aside0.mk hc0_0
 clear hr0_0 hc0_0
 have HR0_1 := Aside0.mk hr0_1
 have HC0_1 := Aside0.mk hc0_1
 clear hr0_1 hc0_1
 have HR0_2 := Aside0.mk hr0_2
 have HC0_2 := Aside0.mk hc0_2
 clear hr0_2 hc0_2
 have HR0_3 := Aside0.mk hr0_3
 have HC0_3 := Aside0.mk hc0_3
 clear hr0_3 hc0_3
 have HB := Aside0.mk (Below.refl w.heap.size w)
 have H : (topiarylaw15_light.l0 k 0 0 l0_0 l0_1 l0_2 l0_3) = some r := h
 clear h
 have H' := Aside0.mk H
 clear H
 go_enter Try.func16, Try.ntmps16
 go_wp2_with (first | ((with_reducible refine gate_dst (N := 1) rfl ?_); (try (refine gate_guard (by rfl) ?_; dsimp only)); refine boxE (N := 1) (cs := #[.slice A0_0 l0_0.length c0_0, .slice A0_1 l0_1.length c0_1, .slice A0_2 l0_2.length c0_2, .slice A0_3 l0_3.length c0_3]) (t := 39) ?_; intro gb125 hg w2 hbox hb; have BK125 := Aside0.mk (hbox); have GW125 := Aside0.mk ((by rw [hg]; exact (below_size (bS HB)) : w.heap.size ≤ gb125)); have GE125 := Aside0.mk ((by rw [hg]; exact (below_size (bS HB)) : w.heap.size ≤ gb125)); replace HB := Aside0.mk (below_step (bS HB) hb); clear hb hbox hg))
 go_loopg [3, 4] k (fun kq v3 v4 w' => ∃ (x3_1 : Int) (x4_1 : Int), v3 = .int .i64 x3_1 ∧ v4 = .int .i64 x4_1 ∧ Aside0 (topiarylaw15_light.l0 kq x3_1 x4_1 l0_0 l0_1 l0_2 l0_3 = some r) ∧ Aside0 (kq ≤ k) ∧ Aside0 (w'.heap[gb125]? = some (.cells #[(.slice A0_0 l0_0.length c0_0), (.slice A0_1 l0_1.length c0_1), (.slice A0_2 l0_2.length c0_2), (.slice A0_3 l0_3.length c0_3)] 39 (0, 0))) ∧ Aside0 (Below w.heap.size w w'))
 case atStart => exact ⟨(0), (0), (by first | rfl | (simp; done) | (simp [*]; done)), (by first | rfl | (simp; done) | (simp [*]; done)), H', ⟨Nat.le_refl _⟩, ⟨by (with_reducible repeat (first | refine blk_drewN ?_ _ | refine blk_drew ?_ | refine blk_alloc ?_ _)); exact BK125.out⟩, ⟨bS1 HB GE125⟩⟩
 case round =>
  clear H'
  (try clear c1); (try clear p2)
  obtain ⟨x3_1, x4_1, rfl, rfl, HA, HK1, BK125, HB⟩ := hrel
  cases gk with
  | zero => exact absurd HA.out (by simp [topiarylaw15_light.l0])
  | succ k1 =>
   have H := HA.out
   clear HA
   simp only [topiarylaw15_light.l0] at H
   by_cases c3 : x4_1 < (l0_2.length : Int)
   ·rw [if_pos c3] at H
    have c3b0 : decide (x4_1 < (l0_2.length : Int)) = true := decide_eq_true c3
    clear c3
    by_cases c4 : 0 ≤ x4_1
    ·rw [if_pos c4] at H
     have c4b0 : decide (0 ≤ x4_1) = true := decide_eq_true c4
     clear c4
     by_cases c5 : (wrap64 (x3_1 + (((rd_T74 l0_2 x4_1).f1).length : Int))) > 600
     ·rw [if_pos c5] at H
      have c5b0 : decide (600 < (wrap64 (x3_1 + (((rd_T74 l0_2 x4_1).f1).length : Int)))) = true := decide_eq_true c5
      clear c5
      obtain rfl := Option.some.inj H
      obtain ⟨hcz6_0, hcz6_1, hcz6_2, hcz6_3, hfz6_0, hfz6_1, hfz6_2, hfz6_3⟩ := b4e BK125
      have p126 : 0 ≤ (x4_1 : Int) := of_decide_eq_true asmS
      have q126 : x4_1 < (l0_2.length : Int) := of_decide_eq_true asmS
      obtain ⟨ad126, A126_2, c126_2, e126, hx126_0, hx126_1, hx126_2, hl126_2, hi126_2⟩ := at_T74 HR0_2.out x4_1 p126 q126
      cases e126
      replace hx126_0 := (HB.out.cell (World.block_lt_of_cell? w _ hx126_0)).trans hx126_0
      replace hx126_1 := (HB.out.cell (World.block_lt_of_cell? w _ hx126_1)).trans hx126_1
      replace hx126_2 := (HB.out.cell (World.block_lt_of_cell? w _ hx126_2)).trans hx126_2
      have HR126_2 := Aside0.mk hi126_2
      have HC126_2 := Aside0.mk hl126_2
      clear hi126_2 hl126_2
      replace p126 := eq_true p126
      replace q126 := eq_true q126
      go_wp2
      go_ret
      exact ⟨by first | rfl | (simp [errW_none, errW_some] <;> rfl) | (simp [*, errW_none, errW_some] <;> rfl), bS1 HB GE125⟩
     ·rw [if_neg c5] at H
      have c5b0 : decide (600 < (wrap64 (x3_1 + (((rd_T74 l0_2 x4_1).f1).length : Int)))) = false := decide_eq_false c5
      clear c5
      have H' := Aside0.mk H
      clear H
      obtain ⟨hcz7_0, hcz7_1, hcz7_2, hcz7_3, hfz7_0, hfz7_1, hfz7_2, hfz7_3⟩ := b4e BK125
      have p126 : 0 ≤ (x4_1 : Int) := of_decide_eq_true asmS
      have q126 : x4_1 < (l0_2.length : Int) := of_decide_eq_true asmS
      obtain ⟨ad126, A126_2, c126_2, e126, hx126_0, hx126_1, hx126_2, hl126_2, hi126_2⟩ := at_T74 HR0_2.out x4_1 p126 q126
      cases e126
      replace hx126_0 := (HB.out.cell (World.block_lt_of_cell? w _ hx126_0)).trans hx126_0
      replace hx126_1 := (HB.out.cell (World.block_lt_of_cell? w _ hx126_1)).trans hx126_1
      replace hx126_2 := (HB.out.cell (World.block_lt_of_cell? w _ hx126_2)).trans hx126_2
      have HR126_2 := Aside0.mk hi126_2
      have HC126_2 := Aside0.mk hl126_2
      clear hi126_2 hl126_2
      replace p126 := eq_true p126
      replace q126 := eq_true q126
      go_wp2
      go_roundg k1
      case measure => have := HK1.out; omega
      case rel => exact ⟨(wrap64 (x3_1 + (((rd_T74 l0_2 x4_1).f1).length : Int))), (wrap64 (x4_1 + 1)), (by first | rfl | (simp; done) | (simp [*]; done)), (by first | rfl | (simp; done) | (simp [*]; done)), H', ⟨by have := HK1.out; omega⟩, ⟨by (with_reducible repeat (first | refine blk_drewN ?_ _ | refine blk_drew ?_ | refine blk_alloc ?_ _)); exact BK125.out⟩, ⟨bS1 HB GE125⟩⟩
    ·rw [if_neg c4] at H
     exact absurd H (by simp)
   ·rw [if_neg c3] at H
    have c3b0 : decide (x4_1 < (l0_2.length : Int)) = false := decide_eq_false c3
    clear c3
    by_cases c8 : (l0_1.length : Int) ≤ 600
    ·rw [if_pos c8] at H
     have c8b0 : decide ((l0_1.length : Int) ≤ 600) = true := decide_eq_true c8
     have c8b1 : decide (l0_1.length ≤ 600) = true := decide_eq_true (by omega)
     clear c8
     by_cases c9 : (l0_2.length : Int) ≤ 600
     ·rw [if_pos c9] at H
      have c9b0 : decide ((l0_2.length : Int) ≤ 600) = true := decide_eq_true c9
      have c9b1 : decide (l0_2.length ≤ 600) = true := decide_eq_true (by omega)
      clear c9
      by_cases c10 : (l0_0.length : Int) ≤ 600
      ·rw [if_pos c10] at H
       have c10b0 : decide ((l0_0.length : Int) ≤ 600) = true := decide_eq_true c10
       have c10b1 : decide (l0_0.length ≤ 600) = true := decide_eq_true (by omega)
       clear c10
       obtain rfl := Option.some.inj H
       obtain ⟨hcz11_0, hcz11_1, hcz11_2, hcz11_3, hfz11_0, hfz11_1, hfz11_2, hfz11_3⟩ := b4e BK125
       go_wp2
       go_ret
       exact ⟨by first | rfl | (simp [errW_none, errW_some] <;> rfl) | (simp [*, errW_none, errW_some] <;> rfl), bS1 HB GE125⟩
      ·rw [if_neg c10] at H
       have c10b0 : decide ((l0_0.length : Int) ≤ 600) = false := decide_eq_false c10
       have c10b1 : decide (l0_0.length ≤ 600) = false := decide_eq_false (by omega)
       clear c10
       obtain rfl := Option.some.inj H
       obtain ⟨hcz12_0, hcz12_1, hcz12_2, hcz12_3, hfz12_0, hfz12_1, hfz12_2, hfz12_3⟩ := b4e BK125
       go_wp2
       go_ret
       exact ⟨by first | rfl | (simp [errW_none, errW_some] <;> rfl) | (simp [*, errW_none, errW_some] <;> rfl), bS1 HB GE125⟩
     ·rw [if_neg c9] at H
      have c9b0 : decide ((l0_2.length : Int) ≤ 600) = false := decide_eq_false c9
      have c9b1 : decide (l0_2.length ≤ 600) = false := decide_eq_false (by omega)
      clear c9
      obtain rfl := Option.some.inj H
      obtain ⟨hcz13_0, hcz13_1, hcz13_2, hcz13_3, hfz13_0, hfz13_1, hfz13_2, hfz13_3⟩ := b4e BK125
      go_wp2
      go_ret
      exact ⟨by first | rfl | (simp [errW_none, errW_some] <;> rfl) | (simp [*, errW_none, errW_some] <;> rfl), bS1 HB GE125⟩
    ·rw [if_neg c8] at H
     have c8b0 : decide ((l0_1.length : Int) ≤ 600) = false := decide_eq_false c8
     have c8b1 : decide (l0_1.length ≤ 600) = false := decide_eq_false (by omega)
     clear c8
     obtain rfl := Option.some.inj H
     obtain ⟨hcz14_0, hcz14_1, hcz14_2, hcz14_3, hfz14_0, hfz14_1, hfz14_2, hfz14_3⟩ := b4e BK125
     go_wp2
     go_ret
     exact ⟨by first | rfl | (simp [errW_none, errW_some] <;> rfl) | (simp [*, errW_none, errW_some] <;> rfl), bS1 HB GE125⟩
end Go.Proofs.Ytnkbgimihikhoaa.PVt
