/- What the statement's row needs of this session's texts, joined by program: part 6. -/
import Derived.RangeFuncNested
import Derived.RangeFuncBound
import Derived.RangeFuncCalls
import Derived.RangeFuncLeaves
import Derived.RangeFuncBox
import Derived.Shelf.Abstract
import Derived.Shelf.RegionOpen
import Derived.WalkKit
import Derived.OwnWalkIn
import Derived.TacticsInMore
import Derived.LoopNIn
import Derived.LoopIn
import Derived.Maps.OwnIn
import Derived.Maps.Own
import Derived.ControlIn
import Derived.Deep.QuietTactic
import Derived.BigQuiet
import Derived.IntWalk
import Derived.Laws.Cover1
import Derived.Sort.CutIn
import Derived.Test.YtnkbgimihikhoaaQU4
namespace Go.Proofs.Ytnkbgimihikhoaa.PVt
open Go.RowKit Go.Proofs.YtnkbgimihikhoaaW.PrintWords Go.Proofs.YtnkbgimihikhoaaW.PrintLast Go.Proofs.YtnkbgimihikhoaaW.PrintMore
attribute [local go_sem] max2_int min2_int max_two min_two max_three min_three max_four min_four
set_option linter.unusedVariables false
set_option linter.unusedSimpArgs false
attribute [local go_sem high] eqA23 eqA52
mutual
def topiaryref14_Same.j0 : Nat → Bool → List (S52) → List (S97) → List (S74) → List (S111) → List (S52) → List (S97) → List (S74) → List (S111) → Option (Bool)
 | 0, _, _, _, _, _, _, _, _, _ => none
 | k + 1, x38, x271000, x271001, x271002, x271003, x272000, x272001, x272002, x272003 => if x38 = true then (some false) else (topiaryref14_Same.l0 k 0 x271000 x271001 x271002 x271003 x272000 x272001 x272002 x272003)
def topiaryref14_Same.l0 : Nat → Int → List (S52) → List (S97) → List (S74) → List (S111) → List (S52) → List (S97) → List (S74) → List (S111) → Option (Bool)
 | 0, _, _, _, _, _, _, _, _, _ => none
 | k + 1, x5, x271000, x271001, x271002, x271003, x272000, x272001, x272002, x272003 => if x5 < (x271000.length : Int) then (if 0 ≤ x5 then (if x5 < (x272000.length : Int) then (if ((!(((rd_T52 x271000 x5).f0.f0) == ((rd_T52 x272000 x5).f0.f0)) || (!(((rd_T52 x271000 x5).f0.f1) == ((rd_T52 x272000 x5).f0.f1)))) || (!((((rd_T52 x271000 x5).f1).toList) == (((rd_T52 x272000 x5).f1).toList)))) = true then (some false) else (topiaryref14_Same.l0 k (wrap64 (x5 + 1)) x271000 x271001 x271002 x271003 x272000 x272001 x272002 x272003)) else (none)) else (none)) else (topiaryref14_Same.l1 k 0 x271000 x271001 x271002 x271003 x272000 x272001 x272002 x272003)
def topiaryref14_Same.l1 : Nat → Int → List (S52) → List (S97) → List (S74) → List (S111) → List (S52) → List (S97) → List (S74) → List (S111) → Option (Bool)
 | 0, _, _, _, _, _, _, _, _, _ => none
 | k + 1, x6, x271000, x271001, x271002, x271003, x272000, x272001, x272002, x272003 => if x6 < (x271002.length : Int) then (if 0 ≤ x6 then (if x6 < (x272002.length : Int) then (if (!(((rd_T74 x271002 x6).f0.f0) == ((rd_T74 x272002 x6).f0.f0)) || (!(((rd_T74 x271002 x6).f0.f1) == ((rd_T74 x272002 x6).f0.f1)))) = true then (some false) else ((topiaryref01_Same.f k ((rd_T74 x271002 x6).f1) ((rd_T74 x272002 x6).f1)).bind fun t280 => (if t280 = true then (topiaryref14_Same.l1 k (wrap64 (x6 + 1)) x271000 x271001 x271002 x271003 x272000 x272001 x272002 x272003) else (some false)))) else (none)) else (none)) else (some true)
end
def topiaryref14_Same.f (k : Nat) (l0_0 : List (S52)) (l0_1 : List (S97)) (l0_2 : List (S74)) (l0_3 : List (S111)) (l1_0 : List (S52)) (l1_1 : List (S97)) (l1_2 : List (S74)) (l1_3 : List (S111)) : Option (Bool) := if (l0_0.length : Int) = (l1_0.length : Int) then (if (l0_2.length : Int) = (l1_2.length : Int) then ((topiaryref11_Same.f k l0_1 l1_1).bind fun t272 => (if t272 = true then ((topiaryref13_Same.f k l0_3 l1_3).bind fun t273 => (topiaryref14_Same.j0 k (!t273) l0_0 l0_1 l0_2 l0_3 l1_0 l1_1 l1_2 l1_3)) else (topiaryref14_Same.j0 k true l0_0 l0_1 l0_2 l0_3 l1_0 l1_1 l1_2 l1_3))) else (topiaryref14_Same.j0 k true l0_0 l0_1 l0_2 l0_3 l1_0 l1_1 l1_2 l1_3)) else (topiaryref14_Same.j0 k true l0_0 l0_1 l0_2 l0_3 l1_0 l1_1 l1_2 l1_3)
set_option maxHeartbeats 8000000 in
set_option maxRecDepth 100000 in
theorem topiaryref14_Same.calls (k : Nat) (A0_0 : Option Addr) (c0_0 : Nat) (l0_0 : List (S52)) (A0_1 : Option Addr) (c0_1 : Nat) (l0_1 : List (S97)) (A0_2 : Option Addr) (c0_2 : Nat) (l0_2 : List (S74)) (A0_3 : Option Addr) (c0_3 : Nat) (l0_3 : List (S111)) (A1_0 : Option Addr) (c1_0 : Nat) (l1_0 : List (S52)) (A1_1 : Option Addr) (c1_1 : Nat) (l1_1 : List (S97)) (A1_2 : Option Addr) (c1_2 : Nat) (l1_2 : List (S74)) (A1_3 : Option Addr) (c1_3 : Nat) (l1_3 : List (S111)) (r : Bool) (w : World) (hr0_0 : Kd.C k52 w A0_0 l0_0.length l0_0) (hc0_0 : l0_0.length ≤ c0_0) (hr0_1 : Kd.C k97 w A0_1 l0_1.length l0_1) (hc0_1 : l0_1.length ≤ c0_1) (hr0_2 : Kd.C k74 w A0_2 l0_2.length l0_2) (hc0_2 : l0_2.length ≤ c0_2) (hr0_3 : Kd.C k111 w A0_3 l0_3.length l0_3) (hc0_3 : l0_3.length ≤ c0_3) (hr1_0 : Kd.C k52 w A1_0 l1_0.length l1_0) (hc1_0 : l1_0.length ≤ c1_0) (hr1_1 : Kd.C k97 w A1_1 l1_1.length l1_1) (hc1_1 : l1_1.length ≤ c1_1) (hr1_2 : Kd.C k74 w A1_2 l1_2.length l1_2) (hc1_2 : l1_2.length ≤ c1_2) (hr1_3 : Kd.C k111 w A1_3 l1_3.length l1_3) (hc1_3 : l1_3.length ≤ c1_3) (h : topiaryref14_Same.f k l0_0 l0_1 l0_2 l0_3 l1_0 l1_1 l1_2 l1_3 = some r) :
  Calls Try.prog 20 #[.agg #[.slice A0_0 l0_0.length c0_0, .slice A0_1 l0_1.length c0_1, .slice A0_2 l0_2.length c0_2, .slice A0_3 l0_3.length c0_3], .agg #[.slice A1_0 l1_0.length c1_0, .slice A1_1 l1_1.length c1_1, .slice A1_2 l1_2.length c1_2, .slice A1_3 l1_3.length c1_3]] w fun e w' => e = .returned (.bool r) ∧ Below w.heap.size w w' := by
 have hu39 := Try.underlying39
 have hu52 := Try.underlying52
 have hu23 := Try.underlying23
 have HR0_0 := Aside0.mk hr0_0
 have HC0_0 := Aside0.mk hc0_0
 clear hr0_0 hc0_0
 have HR0_1 := Aside0.mk hr0_1
 have HC0_1 := Aside0.mk hc0_1
 clear hr0_1 hc0_1
 have HR0_2 := Aside0.mk hr0_2
 have HC0_2 := Aside0.mk hc0_2
 clear hr0_2 hc0_2
 have HR0_3 := Aside0.mk hr0_3
 have HC0_3 := Aside0.mk hc0_3
 clear hr0_3 hc0_3
 have HR1_0 := Aside0.mk hr1_0
 have HC1_0 := Aside0.mk hc1_0
 clear hr1_0 hc1_0
 have HR1_1 := Aside0.mk hr1_1
 have HC1_1 := Aside0.mk hc1_1
 clear hr1_1 hc1_1
 have HR1_2 := Aside0.mk hr1_2
 have HC1_2 := Aside0.mk hc1_2
 clear hr1_2 hc1_2
 have HR1_3 := Aside0.mk hr1_3
 have HC1_3 := Aside0.mk hc1_3
 clear hr1_3 hc1_3
 have HB := Aside0.mk (Below.refl w.heap.size w)
 have H : (if (l0_0.length : Int) = (l1_0.length : Int) then (if (l0_2.length : Int) = (l1_2.length : Int) then ((topiaryref11_Same.f k l0_1 l1_1).bind fun t272 => (if t272 = true then ((topiaryref13_Same.f k l0_3 l1_3).bind fun t273 => (topiaryref14_Same.j0 k (!t273) l0_0 l0_1 l0_2 l0_3 l1_0 l1_1 l1_2 l1_3)) else (topiaryref14_Same.j0 k true l0_0 l0_1 l0_2 l0_3 l1_0 l1_1 l1_2 l1_3))) else (topiaryref14_Same.j0 k true l0_0 l0_1 l0_2 l0_3 l1_0 l1_1 l1_2 l1_3)) else (topiaryref14_Same.j0 k true l0_0 l0_1 l0_2 l0_3 l1_0 l1_1 l1_2 l1_3)) = some r := h
 clear h
 have HC3 := Aside0.mk H
 clear H
 go_enter Try.func20, Try.ntmps20
 go_upto_region 1 with (first | ((with_reducible refine gate_dst (N := 2) rfl ?_); (try (refine gate_guard (by rfl) ?_; dsimp only)); refine boxE (N := 2) (cs := #[.slice A0_0 l0_0.length c0_0, .slice A0_1 l0_1.length c0_1, .slice A0_2 l0_2.length c0_2, .slice A0_3 l0_3.length c0_3]) (t := 39) ?_; intro gb270 hg w4 hbox hb; have BK270 := Aside0.mk (hbox); have GW270 := Aside0.mk ((by rw [hg]; exact (below_size (bS HB)) : w.heap.size ≤ gb270)); have GE270 := Aside0.mk ((by rw [hg]; exact (below_size (bS HB)) : w.heap.size ≤ gb270)); replace HB := Aside0.mk (below_step (bS HB) hb); clear hb hbox hg) | ((with_reducible refine gate_dst (N := 3) rfl ?_); (try (refine gate_guard (by rfl) ?_; dsimp only)); refine boxE (N := 3) (cs := #[.slice A1_0 l1_0.length c1_0, .slice A1_1 l1_1.length c1_1, .slice A1_2 l1_2.length c1_2, .slice A1_3 l1_3.length c1_3]) (t := 39) ?_; intro gb271 hg w5 hbox hb; have BK271 := Aside0.mk (hbox); have GW271 := Aside0.mk ((by rw [hg]; exact (below_size (bS1 HB GE270)) : w.heap.size ≤ gb271)); have GE271 := Aside0.mk ((by rw [hg]; exact (below_size (bS1 HB GE270)) : w.heap.size ≤ gb271)); have NB270_271 := nLt BK270 hg; have NB271_270 := nGt BK270 hg; replace BK270 := bB BK270 hb; replace HB := Aside0.mk (below_step (bS1 HB GE270) hb); clear hb hbox hg))
 repeat (go_quiet (first | ((with_reducible refine gate_dst (N := 2) rfl ?_); (try (refine gate_guard (by rfl) ?_; dsimp only)); refine boxE (N := 2) (cs := #[.slice A0_0 l0_0.length c0_0, .slice A0_1 l0_1.length c0_1, .slice A0_2 l0_2.length c0_2, .slice A0_3 l0_3.length c0_3]) (t := 39) ?_; intro gb270 hg w4 hbox hb; have BK270 := Aside0.mk (hbox); have GW270 := Aside0.mk ((by rw [hg]; exact (below_size (bS HB)) : w.heap.size ≤ gb270)); have GE270 := Aside0.mk ((by rw [hg]; exact (below_size (bS HB)) : w.heap.size ≤ gb270)); replace HB := Aside0.mk (below_step (bS HB) hb); clear hb hbox hg) | ((with_reducible refine gate_dst (N := 3) rfl ?_); (try (refine gate_guard (by rfl) ?_; dsimp only)); refine boxE (N := 3) (cs := #[.slice A1_0 l1_0.length c1_0, .slice A1_1 l1_1.length c1_1, .slice A1_2 l1_2.length c1_2, .slice A1_3 l1_3.length c1_3]) (t := 39) ?_; intro gb271 hg w5 hbox hb; have BK271 := Aside0.mk (hbox); have GW271 := Aside0.mk ((by rw [hg]; exact (below_size (bS1 HB GE270)) : w.heap.size ≤ gb271)); have GE271 := Aside0.mk ((by rw [hg]; exact (below_size (bS1 HB GE270)) : w.heap.size ≤ gb271)); have NB270_271 := nLt BK270 hg; have NB271_270 := nGt BK270 hg; replace BK270 := bB BK270 hb; replace HB := Aside0.mk (below_step (bS1 HB GE270) hb); clear hb hbox hg)); go_upto_region 1 with (first | ((with_reducible refine gate_dst (N := 2) rfl ?_); (try (refine gate_guard (by rfl) ?_; dsimp only)); refine boxE (N := 2) (cs := #[.slice A0_0 l0_0.length c0_0, .slice A0_1 l0_1.length c0_1, .slice A0_2 l0_2.length c0_2, .slice A0_3 l0_3.length c0_3]) (t := 39) ?_; intro gb270 hg w4 hbox hb; have BK270 := Aside0.mk (hbox); have GW270 := Aside0.mk ((by rw [hg]; exact (below_size (bS HB)) : w.heap.size ≤ gb270)); have GE270 := Aside0.mk ((by rw [hg]; exact (below_size (bS HB)) : w.heap.size ≤ gb270)); replace HB := Aside0.mk (below_step (bS HB) hb); clear hb hbox hg) | ((with_reducible refine gate_dst (N := 3) rfl ?_); (try (refine gate_guard (by rfl) ?_; dsimp only)); refine boxE (N := 3) (cs := #[.slice A1_0 l1_0.length c1_0, .slice A1_1 l1_1.length c1_1, .slice A1_2 l1_2.length c1_2, .slice A1_3 l1_3.length c1_3]) (t := 39) ?_; intro gb271 hg w5 hbox hb; have BK271 := Aside0.mk (hbox); have GW271 := Aside0.mk ((by rw [hg]; exact (below_size (bS1 HB GE270)) : w.heap.size ≤ gb271)); have GE271 := Aside0.mk ((by rw [hg]; exact (below_size (bS1 HB GE270)) : w.heap.size ≤ gb271)); have NB270_271 := nLt BK270 hg; have NB271_270 := nGt BK270 hg; replace BK270 := bB BK270 hb; replace HB := Aside0.mk (below_step (bS1 HB GE270) hb); clear hb hbox hg)))
 (try simp only [Act.put, List.setIfInBounds_toArray, List.set_cons_zero, List.set_cons_succ])
 go_cut [38] (fun v38 wc => ∃ (kq : Nat) (x38_2 : Bool), v38 = .bool x38_2 ∧ Aside0 (topiaryref14_Same.j0 kq x38_2 l0_0 l0_1 l0_2 l0_3 l1_0 l1_1 l1_2 l1_3 = some r) ∧ Aside0 (kq ≤ k) ∧ Aside0 (wc.heap[gb270]? = some (.cells #[(.slice A0_0 l0_0.length c0_0), (.slice A0_1 l0_1.length c0_1), (.slice A0_2 l0_2.length c0_2), (.slice A0_3 l0_3.length c0_3)] 39 (0, 0))) ∧ Aside0 (wc.heap[gb271]? = some (.cells #[(.slice A1_0 l1_0.length c1_0), (.slice A1_1 l1_1.length c1_1), (.slice A1_2 l1_2.length c1_2), (.slice A1_3 l1_3.length c1_3)] 39 (0, 0))) ∧ Aside0 (Below w.heap.size w wc))
 case first =>
  have H := HC3.out
  clear HC3
  by_cases c6 : (l0_0.length : Int) = (l1_0.length : Int)
  ·rw [if_pos c6] at H
   have c6b0 : ((l0_0.length : Int) == (l1_0.length : Int)) = true := beq_iff_eq.mpr c6
   have c6b1 : ((l0_0.length : Int) != (l1_0.length : Int)) = false := bne_eq_false_iff_eq.mpr c6
   have c6b2 : (l0_0.length == l1_0.length) = true := by first | simpa using c6 | (simp at c6 ⊢; omega)
   clear c6
   (first | rw [c6b0] | (simp only [i64_w, i32_w]; rw [c6b0]) | skip)
   by_cases c7 : (l0_2.length : Int) = (l1_2.length : Int)
   ·rw [if_pos c7] at H
    have c7b0 : ((l0_2.length : Int) == (l1_2.length : Int)) = true := beq_iff_eq.mpr c7
    have c7b1 : ((l0_2.length : Int) != (l1_2.length : Int)) = false := bne_eq_false_iff_eq.mpr c7
    have c7b2 : (l0_2.length == l1_2.length) = true := by first | simpa using c7 | (simp at c7 ⊢; omega)
    clear c7
    replace H := Option.bind_eq_some_iff.mp H
    obtain ⟨t272, A80, H⟩ := H
    replace H : (if t272 = true then ((topiaryref13_Same.f k l0_3 l1_3).bind fun t273 => (topiaryref14_Same.j0 k (!t273) l0_0 l0_1 l0_2 l0_3 l1_0 l1_1 l1_2 l1_3)) else (topiaryref14_Same.j0 k true l0_0 l0_1 l0_2 l0_3 l1_0 l1_1 l1_2 l1_3)) = some r := H
    have A8 := Aside0.mk A80
    clear A80
    by_cases c9 : t272 = true
    ·subst c9
     have H1 : ((topiaryref13_Same.f k l0_3 l1_3).bind fun t273 => (topiaryref14_Same.j0 k (!t273) l0_0 l0_1 l0_2 l0_3 l1_0 l1_1 l1_2 l1_3)) = some r := by rw [if_pos rfl] at H; exact H
     clear H
     have H := H1
     clear H1
     replace H := Option.bind_eq_some_iff.mp H
     obtain ⟨t273, A100, H⟩ := H
     replace H : (topiaryref14_Same.j0 k (!t273) l0_0 l0_1 l0_2 l0_3 l1_0 l1_1 l1_2 l1_3) = some r := H
     have A10 := Aside0.mk A100
     clear A100
     have H' := Aside0.mk H
     clear H
     have hnb11 := NB270_271.out
     have hnc11 := NB271_270.out
     obtain ⟨hcz12_0, hcz12_1, hcz12_2, hcz12_3, hfz12_0, hfz12_1, hfz12_2, hfz12_3⟩ := b4e BK270
     obtain ⟨hcz13_0, hcz13_1, hcz13_2, hcz13_3, hfz13_0, hfz13_1, hfz13_2, hfz13_3⟩ := b4e BK271
     go_wp2_with (first | (go_at_call 52; (try simp only [← List.length_take, ← List.length_drop]); (with_reducible refine (topiaryref11_Same.calls k _ _ l0_1 _ _ l1_1 true _ ?side1 ?side2 ?side3 ?side4 A8.out).mono ?_); (case side1 => exact CS (Kd.C_below HR0_1.out HB.out)); (case side2 => exact HC0_1.out); (case side3 => exact CS (Kd.C_below HR1_1.out HB.out)); (case side4 => exact HC1_1.out); rintro e w' ⟨rfl, ⟨nd, rfl⟩⟩; (try first | exact ⟨rfl, _, World.drewN_drewN _ _ _⟩ | exact ⟨rfl, _, Eq.trans (World.drewN_drewN _ _ _) (congrArg (World.drewN _) (Nat.add_assoc _ _ _))⟩)) | (go_at_call 53; (try simp only [← List.length_take, ← List.length_drop]); (with_reducible refine (topiaryref13_Same.calls k _ _ l0_3 _ _ l1_3 t273 _ ?side1 ?side2 ?side3 ?side4 A10.out).mono ?_); (case side1 => exact CS (Kd.C_below HR0_3.out (bS2 HB GE270 GE271))); (case side2 => exact HC0_3.out); (case side3 => exact CS (Kd.C_below HR1_3.out (bS2 HB GE270 GE271))); (case side4 => exact HC1_3.out); rintro e w' ⟨rfl, ⟨nd, rfl⟩⟩; (try first | exact ⟨rfl, _, World.drewN_drewN _ _ _⟩ | exact ⟨rfl, _, Eq.trans (World.drewN_drewN _ _ _) (congrArg (World.drewN _) (Nat.add_assoc _ _ _))⟩)))
     repeat (go_quiet (first | (go_at_call 52; (try simp only [← List.length_take, ← List.length_drop]); (with_reducible refine (topiaryref11_Same.calls k _ _ l0_1 _ _ l1_1 true _ ?side1 ?side2 ?side3 ?side4 A8.out).mono ?_); (case side1 => exact CS (Kd.C_below HR0_1.out HB.out)); (case side2 => exact HC0_1.out); (case side3 => exact CS (Kd.C_below HR1_1.out HB.out)); (case side4 => exact HC1_1.out); rintro e w' ⟨rfl, ⟨nd, rfl⟩⟩; (try first | exact ⟨rfl, _, World.drewN_drewN _ _ _⟩ | exact ⟨rfl, _, Eq.trans (World.drewN_drewN _ _ _) (congrArg (World.drewN _) (Nat.add_assoc _ _ _))⟩)) | (go_at_call 53; (try simp only [← List.length_take, ← List.length_drop]); (with_reducible refine (topiaryref13_Same.calls k _ _ l0_3 _ _ l1_3 t273 _ ?side1 ?side2 ?side3 ?side4 A10.out).mono ?_); (case side1 => exact CS (Kd.C_below HR0_3.out (bS2 HB GE270 GE271))); (case side2 => exact HC0_3.out); (case side3 => exact CS (Kd.C_below HR1_3.out (bS2 HB GE270 GE271))); (case side4 => exact HC1_3.out); rintro e w' ⟨rfl, ⟨nd, rfl⟩⟩; (try first | exact ⟨rfl, _, World.drewN_drewN _ _ _⟩ | exact ⟨rfl, _, Eq.trans (World.drewN_drewN _ _ _) (congrArg (World.drewN _) (Nat.add_assoc _ _ _))⟩))); try go_wp2_with (first | (go_at_call 52; (try simp only [← List.length_take, ← List.length_drop]); (with_reducible refine (topiaryref11_Same.calls k _ _ l0_1 _ _ l1_1 true _ ?side1 ?side2 ?side3 ?side4 A8.out).mono ?_); (case side1 => exact CS (Kd.C_below HR0_1.out HB.out)); (case side2 => exact HC0_1.out); (case side3 => exact CS (Kd.C_below HR1_1.out HB.out)); (case side4 => exact HC1_1.out); rintro e w' ⟨rfl, ⟨nd, rfl⟩⟩; (try first | exact ⟨rfl, _, World.drewN_drewN _ _ _⟩ | exact ⟨rfl, _, Eq.trans (World.drewN_drewN _ _ _) (congrArg (World.drewN _) (Nat.add_assoc _ _ _))⟩)) | (go_at_call 53; (try simp only [← List.length_take, ← List.length_drop]); (with_reducible refine (topiaryref13_Same.calls k _ _ l0_3 _ _ l1_3 t273 _ ?side1 ?side2 ?side3 ?side4 A10.out).mono ?_); (case side1 => exact CS (Kd.C_below HR0_3.out (bS2 HB GE270 GE271))); (case side2 => exact HC0_3.out); (case side3 => exact CS (Kd.C_below HR1_3.out (bS2 HB GE270 GE271))); (case side4 => exact HC1_3.out); rintro e w' ⟨rfl, ⟨nd, rfl⟩⟩; (try first | exact ⟨rfl, _, World.drewN_drewN _ _ _⟩ | exact ⟨rfl, _, Eq.trans (World.drewN_drewN _ _ _) (congrArg (World.drewN _) (Nat.add_assoc _ _ _))⟩))))
     go_meet
     case rel => exact ⟨_, (!t273), (by first | rfl | (simp; done) | (simp [*]; done)), H', ⟨by first | omega | exact Nat.le_refl _⟩, ⟨by (with_reducible repeat (first | refine blk_drewN ?_ _ | refine blk_drew ?_ | refine blk_alloc ?_ _)); exact BK270.out⟩, ⟨by (with_reducible repeat (first | refine blk_drewN ?_ _ | refine blk_drew ?_ | refine blk_alloc ?_ _)); exact BK271.out⟩, ⟨bS2 HB GE270 GE271⟩⟩
    ·replace c9 := Bool.eq_false_iff.mpr c9
     subst c9
     have H1 : (topiaryref14_Same.j0 k true l0_0 l0_1 l0_2 l0_3 l1_0 l1_1 l1_2 l1_3) = some r := by rw [if_neg (show ¬ (false = true) by decide)] at H; exact H
     clear H
     have H := H1
     clear H1
     have H' := Aside0.mk H
     clear H
     have hnb14 := NB270_271.out
     have hnc14 := NB271_270.out
     obtain ⟨hcz15_0, hcz15_1, hcz15_2, hcz15_3, hfz15_0, hfz15_1, hfz15_2, hfz15_3⟩ := b4e BK270
     obtain ⟨hcz16_0, hcz16_1, hcz16_2, hcz16_3, hfz16_0, hfz16_1, hfz16_2, hfz16_3⟩ := b4e BK271
     go_wp2_with (first | (go_at_call 52; (try simp only [← List.length_take, ← List.length_drop]); (with_reducible refine (topiaryref11_Same.calls k _ _ l0_1 _ _ l1_1 false _ ?side1 ?side2 ?side3 ?side4 A8.out).mono ?_); (case side1 => exact CS (Kd.C_below HR0_1.out HB.out)); (case side2 => exact HC0_1.out); (case side3 => exact CS (Kd.C_below HR1_1.out HB.out)); (case side4 => exact HC1_1.out); rintro e w' ⟨rfl, ⟨nd, rfl⟩⟩; (try first | exact ⟨rfl, _, World.drewN_drewN _ _ _⟩ | exact ⟨rfl, _, Eq.trans (World.drewN_drewN _ _ _) (congrArg (World.drewN _) (Nat.add_assoc _ _ _))⟩)))
     repeat (go_quiet (first | (go_at_call 52; (try simp only [← List.length_take, ← List.length_drop]); (with_reducible refine (topiaryref11_Same.calls k _ _ l0_1 _ _ l1_1 false _ ?side1 ?side2 ?side3 ?side4 A8.out).mono ?_); (case side1 => exact CS (Kd.C_below HR0_1.out HB.out)); (case side2 => exact HC0_1.out); (case side3 => exact CS (Kd.C_below HR1_1.out HB.out)); (case side4 => exact HC1_1.out); rintro e w' ⟨rfl, ⟨nd, rfl⟩⟩; (try first | exact ⟨rfl, _, World.drewN_drewN _ _ _⟩ | exact ⟨rfl, _, Eq.trans (World.drewN_drewN _ _ _) (congrArg (World.drewN _) (Nat.add_assoc _ _ _))⟩))); try go_wp2_with (first | (go_at_call 52; (try simp only [← List.length_take, ← List.length_drop]); (with_reducible refine (topiaryref11_Same.calls k _ _ l0_1 _ _ l1_1 false _ ?side1 ?side2 ?side3 ?side4 A8.out).mono ?_); (case side1 => exact CS (Kd.C_below HR0_1.out HB.out)); (case side2 => exact HC0_1.out); (case side3 => exact CS (Kd.C_below HR1_1.out HB.out)); (case side4 => exact HC1_1.out); rintro e w' ⟨rfl, ⟨nd, rfl⟩⟩; (try first | exact ⟨rfl, _, World.drewN_drewN _ _ _⟩ | exact ⟨rfl, _, Eq.trans (World.drewN_drewN _ _ _) (congrArg (World.drewN _) (Nat.add_assoc _ _ _))⟩))))
     go_meet
     case rel => exact ⟨_, (true), (by first | rfl | (simp; done) | (simp [*]; done)), H', ⟨by first | omega | exact Nat.le_refl _⟩, ⟨by (with_reducible repeat (first | refine blk_drewN ?_ _ | refine blk_drew ?_ | refine blk_alloc ?_ _)); exact BK270.out⟩, ⟨by (with_reducible repeat (first | refine blk_drewN ?_ _ | refine blk_drew ?_ | refine blk_alloc ?_ _)); exact BK271.out⟩, ⟨bS2 HB GE270 GE271⟩⟩
   ·rw [if_neg c7] at H
    have c7b0 : ((l0_2.length : Int) == (l1_2.length : Int)) = false := beq_eq_false_iff_ne.mpr c7
    have c7b1 : ((l0_2.length : Int) != (l1_2.length : Int)) = true := bne_iff_ne.mpr c7
    have c7b2 : (l0_2.length == l1_2.length) = false := by first | simpa using c7 | (simp at c7 ⊢; omega)
    have H' := Aside0.mk H
    clear H
    have hnb17 := NB270_271.out
    have hnc17 := NB271_270.out
    obtain ⟨hcz18_0, hcz18_1, hcz18_2, hcz18_3, hfz18_0, hfz18_1, hfz18_2, hfz18_3⟩ := b4e BK270
    obtain ⟨hcz19_0, hcz19_1, hcz19_2, hcz19_3, hfz19_0, hfz19_1, hfz19_2, hfz19_3⟩ := b4e BK271
    go_wp2
    repeat (go_quiet (fail); try go_wp2)
    go_meet
    case rel => exact ⟨_, (true), (by first | rfl | (simp; done) | (simp [*]; done)), H', ⟨by first | omega | exact Nat.le_refl _⟩, ⟨by (with_reducible repeat (first | refine blk_drewN ?_ _ | refine blk_drew ?_ | refine blk_alloc ?_ _)); exact BK270.out⟩, ⟨by (with_reducible repeat (first | refine blk_drewN ?_ _ | refine blk_drew ?_ | refine blk_alloc ?_ _)); exact BK271.out⟩, ⟨bS2 HB GE270 GE271⟩⟩
  ·rw [if_neg c6] at H
   have c6b0 : ((l0_0.length : Int) == (l1_0.length : Int)) = false := beq_eq_false_iff_ne.mpr c6
   have c6b1 : ((l0_0.length : Int) != (l1_0.length : Int)) = true := bne_iff_ne.mpr c6
   have c6b2 : (l0_0.length == l1_0.length) = false := by first | simpa using c6 | (simp at c6 ⊢; omega)
   (first | rw [c6b0] | (simp only [i64_w, i32_w]; rw [c6b0]) | skip)
   have H' := Aside0.mk H
   clear H
   have hnb20 := NB270_271.out
   have hnc20 := NB271_270.out
   obtain ⟨hcz21_0, hcz21_1, hcz21_2, hcz21_3, hfz21_0, hfz21_1, hfz21_2, hfz21_3⟩ := b4e BK270
   obtain ⟨hcz22_0, hcz22_1, hcz22_2, hcz22_3, hfz22_0, hfz22_1, hfz22_2, hfz22_3⟩ := b4e BK271
   go_wp2
   repeat (go_quiet (fail); try go_wp2)
   go_meet
   case rel => exact ⟨_, (true), (by first | rfl | (simp; done) | (simp [*]; done)), H', ⟨by first | omega | exact Nat.le_refl _⟩, ⟨by (with_reducible repeat (first | refine blk_drewN ?_ _ | refine blk_drew ?_ | refine blk_alloc ?_ _)); exact BK270.out⟩, ⟨by (with_reducible repeat (first | refine blk_drewN ?_ _ | refine blk_drew ?_ | refine blk_alloc ?_ _)); exact BK271.out⟩, ⟨bS2 HB GE270 GE271⟩⟩
 case rest =>
  clear HC3
  (try clear c1); (try clear c2); (try clear p2); (try clear c6); (try clear c6b0); (try clear c6b1); (try clear c6b2); (try clear c7); (try clear c7b0); (try clear c7b1); (try clear c7b2); (try clear c9); (try clear c11); (try clear c14); (try clear c17); (try clear c20); (try clear hcz12_0 hcz12_1 hcz12_2 hcz12_3); (try clear hcz13_0 hcz13_1 hcz13_2 hcz13_3); (try clear hcz15_0 hcz15_1 hcz15_2 hcz15_3); (try clear hcz16_0 hcz16_1 hcz16_2 hcz16_3); (try clear hcz18_0 hcz18_1 hcz18_2 hcz18_3); (try clear hcz19_0 hcz19_1 hcz19_2 hcz19_3); (try clear hcz21_0 hcz21_1 hcz21_2 hcz21_3); (try clear hcz22_0 hcz22_1 hcz22_2 hcz22_3); (try clear hfz12_0 hfz12_1 hfz12_2 hfz12_3); (try clear hfz13_0 hfz13_1 hfz13_2 hfz13_3); (try clear hfz15_0 hfz15_1 hfz15_2 hfz15_3); (try clear hfz16_0 hfz16_1 hfz16_2 hfz16_3); (try clear hfz18_0 hfz18_1 hfz18_2 hfz18_3); (try clear hfz19_0 hfz19_1 hfz19_2 hfz19_3); (try clear hfz21_0 hfz21_1 hfz21_2 hfz21_3); (try clear hfz22_0 hfz22_1 hfz22_2 hfz22_3)
  obtain ⟨kq, x38_2, rfl, HA, HJ2, BK270, BK271, HB⟩ := hcut
  cases kq with
  | zero => exact absurd HA.out (by simp [topiaryref14_Same.j0])
  | succ kj2 =>
   have H := HA.out
   clear HA
   simp only [topiaryref14_Same.j0] at H
   by_cases c23 : x38_2 = true
   ·subst c23
    have H1 : (some false) = some r := by rw [if_pos rfl] at H; exact H
    clear H
    have H := H1
    clear H1
    obtain rfl := Option.some.inj H
    go_wp2
    repeat (go_quiet (fail); try go_wp2)
    go_ret
    exact ⟨by first | rfl | (simp [errW_none, errW_some] <;> rfl) | (simp [*, errW_none, errW_some] <;> rfl), bS2 HB GE270 GE271⟩
   ·replace c23 := Bool.eq_false_iff.mpr c23
    subst c23
    have H1 : (topiaryref14_Same.l0 kj2 0 l0_0 l0_1 l0_2 l0_3 l1_0 l1_1 l1_2 l1_3) = some r := by rw [if_neg (show ¬ (false = true) by decide)] at H; exact H
    clear H
    have H := H1
    clear H1
    have H' := Aside0.mk H
    clear H
    go_wp2
    repeat (go_quiet (fail); try go_wp2)
    go_loopg [5] kj2 (fun kq v5 w' => ∃ (x5_2 : Int), v5 = .int .i64 x5_2 ∧ Aside0 (topiaryref14_Same.l0 kq x5_2 l0_0 l0_1 l0_2 l0_3 l1_0 l1_1 l1_2 l1_3 = some r) ∧ Aside0 (kq ≤ kj2) ∧ Aside0 (w'.heap[gb270]? = some (.cells #[(.slice A0_0 l0_0.length c0_0), (.slice A0_1 l0_1.length c0_1), (.slice A0_2 l0_2.length c0_2), (.slice A0_3 l0_3.length c0_3)] 39 (0, 0))) ∧ Aside0 (w'.heap[gb271]? = some (.cells #[(.slice A1_0 l1_0.length c1_0), (.slice A1_1 l1_1.length c1_1), (.slice A1_2 l1_2.length c1_2), (.slice A1_3 l1_3.length c1_3)] 39 (0, 0))) ∧ Aside0 (Below w.heap.size w w'))
    case atStart => exact ⟨(0), (by first | rfl | (simp; done) | (simp [*]; done)), H', ⟨Nat.le_refl _⟩, ⟨by (with_reducible repeat (first | refine blk_drewN ?_ _ | refine blk_drew ?_ | refine blk_alloc ?_ _)); exact BK270.out⟩, ⟨by (with_reducible repeat (first | refine blk_drewN ?_ _ | refine blk_drew ?_ | refine blk_alloc ?_ _)); exact BK271.out⟩, ⟨bS2 HB GE270 GE271⟩⟩
    case round =>
     clear H'
     (try clear c1); (try clear c2); (try clear p2); (try clear p2); (try clear c6); (try clear c6b0); (try clear c6b1); (try clear c6b2); (try clear c7); (try clear c7b0); (try clear c7b1); (try clear c7b2); (try clear c9); (try clear c11); (try clear c14); (try clear c17); (try clear c20); (try clear c23); (try clear hcz12_0 hcz12_1 hcz12_2 hcz12_3); (try clear hcz13_0 hcz13_1 hcz13_2 hcz13_3); (try clear hcz15_0 hcz15_1 hcz15_2 hcz15_3); (try clear hcz16_0 hcz16_1 hcz16_2 hcz16_3); (try clear hcz18_0 hcz18_1 hcz18_2 hcz18_3); (try clear hcz19_0 hcz19_1 hcz19_2 hcz19_3); (try clear hcz21_0 hcz21_1 hcz21_2 hcz21_3); (try clear hcz22_0 hcz22_1 hcz22_2 hcz22_3); (try clear hfz12_0 hfz12_1 hfz12_2 hfz12_3); (try clear hfz13_0 hfz13_1 hfz13_2 hfz13_3); (try clear hfz15_0 hfz15_1 hfz15_2 hfz15_3); (try clear hfz16_0 hfz16_1 hfz16_2 hfz16_3); (try clear hfz18_0 hfz18_1 hfz18_2 hfz18_3); (try clear hfz19_0 hfz19_1 hfz19_2 hfz19_3); (try clear hfz21_0 hfz21_1 hfz21_2 hfz21_3); (try clear hfz22_0 hfz22_1 hfz22_2 hfz22_3)
     obtain ⟨x5_2, rfl, HA, HK2, BK270, BK271, HB⟩ := hrel
     cases gk with
     | zero => exact absurd HA.out (by simp [topiaryref14_Same.l0])
     | succ k2 =>
      have H := HA.out
      clear HA
      simp only [topiaryref14_Same.l0] at H
      by_cases c24 : x5_2 < (l0_0.length : Int)
      ·rw [if_pos c24] at H
       have c24b0 : decide (x5_2 < (l0_0.length : Int)) = true := decide_eq_true c24
       clear c24
       by_cases c25 : 0 ≤ x5_2
       ·rw [if_pos c25] at H
        have c25b0 : decide (0 ≤ x5_2) = true := decide_eq_true c25
        clear c25
        by_cases c26 : x5_2 < (l1_0.length : Int)
        ·rw [if_pos c26] at H
         have c26b0 : decide (x5_2 < (l1_0.length : Int)) = true := decide_eq_true c26
         clear c26
         by_cases c27 : ((!(((rd_T52 l0_0 x5_2).f0.f0) == ((rd_T52 l1_0 x5_2).f0.f0)) || (!(((rd_T52 l0_0 x5_2).f0.f1) == ((rd_T52 l1_0 x5_2).f0.f1)))) || (!((((rd_T52 l0_0 x5_2).f1).toList) == (((rd_T52 l1_0 x5_2).f1).toList)))) = true
         ·rw [if_pos c27] at H
          have c27b0 : ((!(((rd_T52 l0_0 x5_2).f0.f0) == ((rd_T52 l1_0 x5_2).f0.f0)) || (!(((rd_T52 l0_0 x5_2).f0.f1) == ((rd_T52 l1_0 x5_2).f0.f1)))) || (!((((rd_T52 l0_0 x5_2).f1).toList) == (((rd_T52 l1_0 x5_2).f1).toList)))) = true := c27
          clear c27
          obtain rfl := Option.some.inj H
          have hnb28 := NB270_271.out
          have hnc28 := NB271_270.out
          obtain ⟨hcz29_0, hcz29_1, hcz29_2, hcz29_3, hfz29_0, hfz29_1, hfz29_2, hfz29_3⟩ := b4e BK270
          have p274 : 0 ≤ (x5_2 : Int) := of_decide_eq_true asmS
          have q274 : x5_2 < (l0_0.length : Int) := of_decide_eq_true asmS
          obtain ⟨ad274, e274, hx274_0, hx274_1, hx274_2⟩ := at_T52 HR0_0.out x5_2 p274 q274
          cases e274
          replace hx274_0 := (HB.out.cell (World.block_lt_of_cell? w _ hx274_0)).trans hx274_0
          replace hx274_1 := (HB.out.cell (World.block_lt_of_cell? w _ hx274_1)).trans hx274_1
          replace hx274_2 := (HB.out.cell (World.block_lt_of_cell? w _ hx274_2)).trans hx274_2
          replace p274 := eq_true p274
          replace q274 := eq_true q274
          obtain ⟨hcz30_0, hcz30_1, hcz30_2, hcz30_3, hfz30_0, hfz30_1, hfz30_2, hfz30_3⟩ := b4e BK271
          have p275 : 0 ≤ (x5_2 : Int) := of_decide_eq_true asmS
          have q275 : x5_2 < (l1_0.length : Int) := of_decide_eq_true asmS
          obtain ⟨ad275, e275, hx275_0, hx275_1, hx275_2⟩ := at_T52 HR1_0.out x5_2 p275 q275
          cases e275
          replace hx275_0 := (HB.out.cell (World.block_lt_of_cell? w _ hx275_0)).trans hx275_0
          replace hx275_1 := (HB.out.cell (World.block_lt_of_cell? w _ hx275_1)).trans hx275_1
          replace hx275_2 := (HB.out.cell (World.block_lt_of_cell? w _ hx275_2)).trans hx275_2
          replace p275 := eq_true p275
          replace q275 := eq_true q275
          go_wp2
          repeat (go_quiet (fail); try go_wp2)
          go_ret
          exact ⟨by first | rfl | (simp [errW_none, errW_some] <;> rfl) | (simp [*, errW_none, errW_some] <;> rfl), bS2 HB GE270 GE271⟩
         ·rw [if_neg c27] at H
          have c27b0 : ((!(((rd_T52 l0_0 x5_2).f0.f0) == ((rd_T52 l1_0 x5_2).f0.f0)) || (!(((rd_T52 l0_0 x5_2).f0.f1) == ((rd_T52 l1_0 x5_2).f0.f1)))) || (!((((rd_T52 l0_0 x5_2).f1).toList) == (((rd_T52 l1_0 x5_2).f1).toList)))) = false := by simpa using c27
          clear c27
          have H' := Aside0.mk H
          clear H
          have hnb31 := NB270_271.out
          have hnc31 := NB271_270.out
          obtain ⟨hcz32_0, hcz32_1, hcz32_2, hcz32_3, hfz32_0, hfz32_1, hfz32_2, hfz32_3⟩ := b4e BK270
          have p274 : 0 ≤ (x5_2 : Int) := of_decide_eq_true asmS
          have q274 : x5_2 < (l0_0.length : Int) := of_decide_eq_true asmS
          obtain ⟨ad274, e274, hx274_0, hx274_1, hx274_2⟩ := at_T52 HR0_0.out x5_2 p274 q274
          cases e274
          replace hx274_0 := (HB.out.cell (World.block_lt_of_cell? w _ hx274_0)).trans hx274_0
          replace hx274_1 := (HB.out.cell (World.block_lt_of_cell? w _ hx274_1)).trans hx274_1
          replace hx274_2 := (HB.out.cell (World.block_lt_of_cell? w _ hx274_2)).trans hx274_2
          replace p274 := eq_true p274
          replace q274 := eq_true q274
          obtain ⟨hcz33_0, hcz33_1, hcz33_2, hcz33_3, hfz33_0, hfz33_1, hfz33_2, hfz33_3⟩ := b4e BK271
          have p275 : 0 ≤ (x5_2 : Int) := of_decide_eq_true asmS
          have q275 : x5_2 < (l1_0.length : Int) := of_decide_eq_true asmS
          obtain ⟨ad275, e275, hx275_0, hx275_1, hx275_2⟩ := at_T52 HR1_0.out x5_2 p275 q275
          cases e275
          replace hx275_0 := (HB.out.cell (World.block_lt_of_cell? w _ hx275_0)).trans hx275_0
          replace hx275_1 := (HB.out.cell (World.block_lt_of_cell? w _ hx275_1)).trans hx275_1
          replace hx275_2 := (HB.out.cell (World.block_lt_of_cell? w _ hx275_2)).trans hx275_2
          replace p275 := eq_true p275
          replace q275 := eq_true q275
          go_wp2
          repeat (go_quiet (fail); try go_wp2)
          go_roundg k2
          case measure => have := HJ2.out; have := HK2.out; omega
          case rel => exact ⟨(wrap64 (x5_2 + 1)), (by first | rfl | (simp; done) | (simp [*]; done)), H', ⟨by have := HJ2.out; have := HK2.out; omega⟩, ⟨by (with_reducible repeat (first | refine blk_drewN ?_ _ | refine blk_drew ?_ | refine blk_alloc ?_ _)); exact BK270.out⟩, ⟨by (with_reducible repeat (first | refine blk_drewN ?_ _ | refine blk_drew ?_ | refine blk_alloc ?_ _)); exact BK271.out⟩, ⟨bS2 HB GE270 GE271⟩⟩
        ·rw [if_neg c26] at H
         exact absurd H (by simp)
       ·rw [if_neg c25] at H
        exact absurd H (by simp)
      ·rw [if_neg c24] at H
       have c24b0 : decide (x5_2 < (l0_0.length : Int)) = false := decide_eq_false c24
       clear c24
       have H' := Aside0.mk H
       clear H
       have hnb34 := NB270_271.out
       have hnc34 := NB271_270.out
       obtain ⟨hcz35_0, hcz35_1, hcz35_2, hcz35_3, hfz35_0, hfz35_1, hfz35_2, hfz35_3⟩ := b4e BK270
       go_wp2
       repeat (go_quiet (fail); try go_wp2)
       go_loopg [6] k2 (fun kq v6 w' => ∃ (x6_3 : Int), v6 = .int .i64 x6_3 ∧ Aside0 (topiaryref14_Same.l1 kq x6_3 l0_0 l0_1 l0_2 l0_3 l1_0 l1_1 l1_2 l1_3 = some r) ∧ Aside0 (kq ≤ k2) ∧ Aside0 (w'.heap[gb270]? = some (.cells #[(.slice A0_0 l0_0.length c0_0), (.slice A0_1 l0_1.length c0_1), (.slice A0_2 l0_2.length c0_2), (.slice A0_3 l0_3.length c0_3)] 39 (0, 0))) ∧ Aside0 (w'.heap[gb271]? = some (.cells #[(.slice A1_0 l1_0.length c1_0), (.slice A1_1 l1_1.length c1_1), (.slice A1_2 l1_2.length c1_2), (.slice A1_3 l1_3.length c1_3)] 39 (0, 0))) ∧ Aside0 (Below w.heap.size w w'))
       case atStart => exact ⟨(0), (by first | rfl | (simp; done) | (simp [*]; done)), H', ⟨Nat.le_refl _⟩, ⟨by (with_reducible repeat (first | refine blk_drewN ?_ _ | refine blk_drew ?_ | refine blk_alloc ?_ _)); exact BK270.out⟩, ⟨by (with_reducible repeat (first | refine blk_drewN ?_ _ | refine blk_drew ?_ | refine blk_alloc ?_ _)); exact BK271.out⟩, ⟨bS2 HB GE270 GE271⟩⟩
       case round =>
        clear H'
        (try clear c1); (try clear c2); (try clear p2); (try clear p2); (try clear q2); (try clear hx2); (try clear c3); (try clear c6); (try clear c6b0); (try clear c6b1); (try clear c6b2); (try clear p6); (try clear c7); (try clear c7b0); (try clear c7b1); (try clear c7b2); (try clear c9); (try clear c11); (try clear c14); (try clear c17); (try clear c20); (try clear c23); (try clear c24); (try clear c24b0); (try clear c25); (try clear c25b0); (try clear c26); (try clear c26b0); (try clear c27); (try clear c27b0); (try clear p27); (try clear q27); (try clear hx27); (try clear c28); (try clear c31); (try clear c34); (try clear hcz12_0 hcz12_1 hcz12_2 hcz12_3); (try clear hcz13_0 hcz13_1 hcz13_2 hcz13_3); (try clear hcz15_0 hcz15_1 hcz15_2 hcz15_3); (try clear hcz16_0 hcz16_1 hcz16_2 hcz16_3); (try clear hcz18_0 hcz18_1 hcz18_2 hcz18_3); (try clear hcz19_0 hcz19_1 hcz19_2 hcz19_3); (try clear hcz21_0 hcz21_1 hcz21_2 hcz21_3); (try clear hcz22_0 hcz22_1 hcz22_2 hcz22_3); (try clear hcz29_0 hcz29_1 hcz29_2 hcz29_3); (try clear hcz30_0 hcz30_1 hcz30_2 hcz30_3); (try clear hcz32_0 hcz32_1 hcz32_2 hcz32_3); (try clear hcz33_0 hcz33_1 hcz33_2 hcz33_3); (try clear hcz35_0 hcz35_1 hcz35_2 hcz35_3); (try clear hfz12_0 hfz12_1 hfz12_2 hfz12_3); (try clear hfz13_0 hfz13_1 hfz13_2 hfz13_3); (try clear hfz15_0 hfz15_1 hfz15_2 hfz15_3); (try clear hfz16_0 hfz16_1 hfz16_2 hfz16_3); (try clear hfz18_0 hfz18_1 hfz18_2 hfz18_3); (try clear hfz19_0 hfz19_1 hfz19_2 hfz19_3); (try clear hfz21_0 hfz21_1 hfz21_2 hfz21_3); (try clear hfz22_0 hfz22_1 hfz22_2 hfz22_3); (try clear hfz29_0 hfz29_1 hfz29_2 hfz29_3); (try clear hfz30_0 hfz30_1 hfz30_2 hfz30_3); (try clear hfz32_0 hfz32_1 hfz32_2 hfz32_3); (try clear hfz33_0 hfz33_1 hfz33_2 hfz33_3); (try clear hfz35_0 hfz35_1 hfz35_2 hfz35_3); (try clear hx274_0); (try clear hx274_1); (try clear hx274_2); (try clear hx275_0); (try clear hx275_1); (try clear hx275_2); (try clear p274); (try clear p275); (try clear q274); (try clear q275)
        obtain ⟨x6_3, rfl, HA, HK3, BK270, BK271, HB⟩ := hrel
        cases gk with
        | zero => exact absurd HA.out (by simp [topiaryref14_Same.l1])
        | succ k3 =>
         have H := HA.out
         clear HA
         simp only [topiaryref14_Same.l1] at H
         by_cases c36 : x6_3 < (l0_2.length : Int)
         ·rw [if_pos c36] at H
          have c36b0 : decide (x6_3 < (l0_2.length : Int)) = true := decide_eq_true c36
          clear c36
          by_cases c37 : 0 ≤ x6_3
          ·rw [if_pos c37] at H
           have c37b0 : decide (0 ≤ x6_3) = true := decide_eq_true c37
           clear c37
           by_cases c38 : x6_3 < (l1_2.length : Int)
           ·rw [if_pos c38] at H
            have c38b0 : decide (x6_3 < (l1_2.length : Int)) = true := decide_eq_true c38
            clear c38
            by_cases c39 : (!(((rd_T74 l0_2 x6_3).f0.f0) == ((rd_T74 l1_2 x6_3).f0.f0)) || (!(((rd_T74 l0_2 x6_3).f0.f1) == ((rd_T74 l1_2 x6_3).f0.f1)))) = true
            ·rw [if_pos c39] at H
             have c39b0 : (!(((rd_T74 l0_2 x6_3).f0.f0) == ((rd_T74 l1_2 x6_3).f0.f0)) || (!(((rd_T74 l0_2 x6_3).f0.f1) == ((rd_T74 l1_2 x6_3).f0.f1)))) = true := c39
             clear c39
             obtain rfl := Option.some.inj H
             have hnb40 := NB270_271.out
             have hnc40 := NB271_270.out
             obtain ⟨hcz41_0, hcz41_1, hcz41_2, hcz41_3, hfz41_0, hfz41_1, hfz41_2, hfz41_3⟩ := b4e BK270
             have p276 : 0 ≤ (x6_3 : Int) := of_decide_eq_true asmS
             have q276 : x6_3 < (l0_2.length : Int) := of_decide_eq_true asmS
             obtain ⟨ad276, A276_2, c276_2, e276, hx276_0, hx276_1, hx276_2, hl276_2, hi276_2⟩ := at_T74 HR0_2.out x6_3 p276 q276
             cases e276
             replace hx276_0 := (HB.out.cell (World.block_lt_of_cell? w _ hx276_0)).trans hx276_0
             replace hx276_1 := (HB.out.cell (World.block_lt_of_cell? w _ hx276_1)).trans hx276_1
             replace hx276_2 := (HB.out.cell (World.block_lt_of_cell? w _ hx276_2)).trans hx276_2
             have HR276_2 := Aside0.mk hi276_2
             have HC276_2 := Aside0.mk hl276_2
             clear hi276_2 hl276_2
             replace p276 := eq_true p276
             replace q276 := eq_true q276
             obtain ⟨hcz42_0, hcz42_1, hcz42_2, hcz42_3, hfz42_0, hfz42_1, hfz42_2, hfz42_3⟩ := b4e BK271
             have p277 : 0 ≤ (x6_3 : Int) := of_decide_eq_true asmS
             have q277 : x6_3 < (l1_2.length : Int) := of_decide_eq_true asmS
             obtain ⟨ad277, A277_2, c277_2, e277, hx277_0, hx277_1, hx277_2, hl277_2, hi277_2⟩ := at_T74 HR1_2.out x6_3 p277 q277
             cases e277
             replace hx277_0 := (HB.out.cell (World.block_lt_of_cell? w _ hx277_0)).trans hx277_0
             replace hx277_1 := (HB.out.cell (World.block_lt_of_cell? w _ hx277_1)).trans hx277_1
             replace hx277_2 := (HB.out.cell (World.block_lt_of_cell? w _ hx277_2)).trans hx277_2
             have HR277_2 := Aside0.mk hi277_2
             have HC277_2 := Aside0.mk hl277_2
             clear hi277_2 hl277_2
             replace p277 := eq_true p277
             replace q277 := eq_true q277
             go_wp2
             repeat (go_quiet (fail); try go_wp2)
             go_ret
             exact ⟨by first | rfl | (simp [errW_none, errW_some] <;> rfl) | (simp [*, errW_none, errW_some] <;> rfl), bS2 HB GE270 GE271⟩
            ·rw [if_neg c39] at H
             have c39b0 : (!(((rd_T74 l0_2 x6_3).f0.f0) == ((rd_T74 l1_2 x6_3).f0.f0)) || (!(((rd_T74 l0_2 x6_3).f0.f1) == ((rd_T74 l1_2 x6_3).f0.f1)))) = false := by simpa using c39
             clear c39
             replace H := Option.bind_eq_some_iff.mp H
             obtain ⟨t280, A430, H⟩ := H
             replace H : (if t280 = true then (topiaryref14_Same.l1 k3 (wrap64 (x6_3 + 1)) l0_0 l0_1 l0_2 l0_3 l1_0 l1_1 l1_2 l1_3) else (some false)) = some r := H
             have A43 := Aside0.mk A430
             clear A430
             by_cases c44 : t280 = true
             ·subst c44
              have H1 : (topiaryref14_Same.l1 k3 (wrap64 (x6_3 + 1)) l0_0 l0_1 l0_2 l0_3 l1_0 l1_1 l1_2 l1_3) = some r := by rw [if_pos rfl] at H; exact H
              clear H
              have H := H1
              clear H1
              have H' := Aside0.mk H
              clear H
              have hnb45 := NB270_271.out
              have hnc45 := NB271_270.out
              obtain ⟨hcz46_0, hcz46_1, hcz46_2, hcz46_3, hfz46_0, hfz46_1, hfz46_2, hfz46_3⟩ := b4e BK270
              have p276 : 0 ≤ (x6_3 : Int) := of_decide_eq_true asmS
              have q276 : x6_3 < (l0_2.length : Int) := of_decide_eq_true asmS
              obtain ⟨ad276, A276_2, c276_2, e276, hx276_0, hx276_1, hx276_2, hl276_2, hi276_2⟩ := at_T74 HR0_2.out x6_3 p276 q276
              cases e276
              replace hx276_0 := (HB.out.cell (World.block_lt_of_cell? w _ hx276_0)).trans hx276_0
              replace hx276_1 := (HB.out.cell (World.block_lt_of_cell? w _ hx276_1)).trans hx276_1
              replace hx276_2 := (HB.out.cell (World.block_lt_of_cell? w _ hx276_2)).trans hx276_2
              have HR276_2 := Aside0.mk hi276_2
              have HC276_2 := Aside0.mk hl276_2
              clear hi276_2 hl276_2
              replace p276 := eq_true p276
              replace q276 := eq_true q276
              obtain ⟨hcz47_0, hcz47_1, hcz47_2, hcz47_3, hfz47_0, hfz47_1, hfz47_2, hfz47_3⟩ := b4e BK271
              have p277 : 0 ≤ (x6_3 : Int) := of_decide_eq_true asmS
              have q277 : x6_3 < (l1_2.length : Int) := of_decide_eq_true asmS
              obtain ⟨ad277, A277_2, c277_2, e277, hx277_0, hx277_1, hx277_2, hl277_2, hi277_2⟩ := at_T74 HR1_2.out x6_3 p277 q277
              cases e277
              replace hx277_0 := (HB.out.cell (World.block_lt_of_cell? w _ hx277_0)).trans hx277_0
              replace hx277_1 := (HB.out.cell (World.block_lt_of_cell? w _ hx277_1)).trans hx277_1
              replace hx277_2 := (HB.out.cell (World.block_lt_of_cell? w _ hx277_2)).trans hx277_2
              have HR277_2 := Aside0.mk hi277_2
              have HC277_2 := Aside0.mk hl277_2
              clear hi277_2 hl277_2
              replace p277 := eq_true p277
              replace q277 := eq_true q277
              have p278 : 0 ≤ (x6_3 : Int) := of_decide_eq_true asmS
              have q278 : x6_3 < (l0_2.length : Int) := of_decide_eq_true asmS
              obtain ⟨ad278, A278_2, c278_2, e278, hx278_0, hx278_1, hx278_2, hl278_2, hi278_2⟩ := at_T74 HR0_2.out x6_3 p278 q278
              obtain rfl : ad276 = ad278 := (by injection e278)
              replace hx278_0 := (HB.out.cell (World.block_lt_of_cell? w _ hx278_0)).trans hx278_0
              replace hx278_1 := (HB.out.cell (World.block_lt_of_cell? w _ hx278_1)).trans hx278_1
              replace hx278_2 := (HB.out.cell (World.block_lt_of_cell? w _ hx278_2)).trans hx278_2
              have HR278_2 := Aside0.mk hi278_2
              have HC278_2 := Aside0.mk hl278_2
              clear hi278_2 hl278_2
              replace p278 := eq_true p278
              replace q278 := eq_true q278
              have ea_ := Option.some.inj (hx276_2.symm.trans hx278_2)
              injection ea_ with ea_ en_ ec_
              subst ea_
              subst ec_
              clear en_
              have p279 : 0 ≤ (x6_3 : Int) := of_decide_eq_true asmS
              have q279 : x6_3 < (l1_2.length : Int) := of_decide_eq_true asmS
              obtain ⟨ad279, A279_2, c279_2, e279, hx279_0, hx279_1, hx279_2, hl279_2, hi279_2⟩ := at_T74 HR1_2.out x6_3 p279 q279
              obtain rfl : ad277 = ad279 := (by injection e279)
              replace hx279_0 := (HB.out.cell (World.block_lt_of_cell? w _ hx279_0)).trans hx279_0
              replace hx279_1 := (HB.out.cell (World.block_lt_of_cell? w _ hx279_1)).trans hx279_1
              replace hx279_2 := (HB.out.cell (World.block_lt_of_cell? w _ hx279_2)).trans hx279_2
              have HR279_2 := Aside0.mk hi279_2
              have HC279_2 := Aside0.mk hl279_2
              clear hi279_2 hl279_2
              replace p279 := eq_true p279
              replace q279 := eq_true q279
              have ea_ := Option.some.inj (hx277_2.symm.trans hx279_2)
              injection ea_ with ea_ en_ ec_
              subst ea_
              subst ec_
              clear en_
              go_wp2_with (first | (go_at_call 35; (try simp only [← List.length_take, ← List.length_drop]); (with_reducible refine (topiaryref01_Same.calls k3 _ _ ((rd_T74 l0_2 x6_3).f1) _ _ ((rd_T74 l1_2 x6_3).f1) true _ ?side1 ?side2 ?side3 ?side4 A43.out).mono ?_); (case side1 => exact CS (Kd.C_below HR278_2.out HB.out)); (case side2 => exact HC278_2.out); (case side3 => exact CS (Kd.C_below HR279_2.out HB.out)); (case side4 => exact HC279_2.out); rintro e w' ⟨rfl, ⟨nd, rfl⟩⟩; (try first | exact ⟨rfl, _, World.drewN_drewN _ _ _⟩ | exact ⟨rfl, _, Eq.trans (World.drewN_drewN _ _ _) (congrArg (World.drewN _) (Nat.add_assoc _ _ _))⟩)))
              repeat (go_quiet (first | (go_at_call 35; (try simp only [← List.length_take, ← List.length_drop]); (with_reducible refine (topiaryref01_Same.calls k3 _ _ ((rd_T74 l0_2 x6_3).f1) _ _ ((rd_T74 l1_2 x6_3).f1) true _ ?side1 ?side2 ?side3 ?side4 A43.out).mono ?_); (case side1 => exact CS (Kd.C_below HR278_2.out HB.out)); (case side2 => exact HC278_2.out); (case side3 => exact CS (Kd.C_below HR279_2.out HB.out)); (case side4 => exact HC279_2.out); rintro e w' ⟨rfl, ⟨nd, rfl⟩⟩; (try first | exact ⟨rfl, _, World.drewN_drewN _ _ _⟩ | exact ⟨rfl, _, Eq.trans (World.drewN_drewN _ _ _) (congrArg (World.drewN _) (Nat.add_assoc _ _ _))⟩))); try go_wp2_with (first | (go_at_call 35; (try simp only [← List.length_take, ← List.length_drop]); (with_reducible refine (topiaryref01_Same.calls k3 _ _ ((rd_T74 l0_2 x6_3).f1) _ _ ((rd_T74 l1_2 x6_3).f1) true _ ?side1 ?side2 ?side3 ?side4 A43.out).mono ?_); (case side1 => exact CS (Kd.C_below HR278_2.out HB.out)); (case side2 => exact HC278_2.out); (case side3 => exact CS (Kd.C_below HR279_2.out HB.out)); (case side4 => exact HC279_2.out); rintro e w' ⟨rfl, ⟨nd, rfl⟩⟩; (try first | exact ⟨rfl, _, World.drewN_drewN _ _ _⟩ | exact ⟨rfl, _, Eq.trans (World.drewN_drewN _ _ _) (congrArg (World.drewN _) (Nat.add_assoc _ _ _))⟩))))
              go_roundg k3
              case measure => have := HJ2.out; have := HK2.out; have := HK3.out; omega
              case rel => exact ⟨(wrap64 (x6_3 + 1)), (by first | rfl | (simp; done) | (simp [*]; done)), H', ⟨by have := HJ2.out; have := HK2.out; have := HK3.out; omega⟩, ⟨by (with_reducible repeat (first | refine blk_drewN ?_ _ | refine blk_drew ?_ | refine blk_alloc ?_ _)); exact BK270.out⟩, ⟨by (with_reducible repeat (first | refine blk_drewN ?_ _ | refine blk_drew ?_ | refine blk_alloc ?_ _)); exact BK271.out⟩, ⟨bS2 HB GE270 GE271⟩⟩
             ·replace c44 := Bool.eq_false_iff.mpr c44
              subst c44
              have H1 : (some false) = some r := by rw [if_neg (show ¬ (false = true) by decide)] at H; exact H
              clear H
              have H := H1
              clear H1
              obtain rfl := Option.some.inj H
              have hnb48 := NB270_271.out
              have hnc48 := NB271_270.out
              obtain ⟨hcz49_0, hcz49_1, hcz49_2, hcz49_3, hfz49_0, hfz49_1, hfz49_2, hfz49_3⟩ := b4e BK270
              have p276 : 0 ≤ (x6_3 : Int) := of_decide_eq_true asmS
              have q276 : x6_3 < (l0_2.length : Int) := of_decide_eq_true asmS
              obtain ⟨ad276, A276_2, c276_2, e276, hx276_0, hx276_1, hx276_2, hl276_2, hi276_2⟩ := at_T74 HR0_2.out x6_3 p276 q276
              cases e276
              replace hx276_0 := (HB.out.cell (World.block_lt_of_cell? w _ hx276_0)).trans hx276_0
              replace hx276_1 := (HB.out.cell (World.block_lt_of_cell? w _ hx276_1)).trans hx276_1
              replace hx276_2 := (HB.out.cell (World.block_lt_of_cell? w _ hx276_2)).trans hx276_2
              have HR276_2 := Aside0.mk hi276_2
              have HC276_2 := Aside0.mk hl276_2
              clear hi276_2 hl276_2
              replace p276 := eq_true p276
              replace q276 := eq_true q276
              obtain ⟨hcz50_0, hcz50_1, hcz50_2, hcz50_3, hfz50_0, hfz50_1, hfz50_2, hfz50_3⟩ := b4e BK271
              have p277 : 0 ≤ (x6_3 : Int) := of_decide_eq_true asmS
              have q277 : x6_3 < (l1_2.length : Int) := of_decide_eq_true asmS
              obtain ⟨ad277, A277_2, c277_2, e277, hx277_0, hx277_1, hx277_2, hl277_2, hi277_2⟩ := at_T74 HR1_2.out x6_3 p277 q277
              cases e277
              replace hx277_0 := (HB.out.cell (World.block_lt_of_cell? w _ hx277_0)).trans hx277_0
              replace hx277_1 := (HB.out.cell (World.block_lt_of_cell? w _ hx277_1)).trans hx277_1
              replace hx277_2 := (HB.out.cell (World.block_lt_of_cell? w _ hx277_2)).trans hx277_2
              have HR277_2 := Aside0.mk hi277_2
              have HC277_2 := Aside0.mk hl277_2
              clear hi277_2 hl277_2
              replace p277 := eq_true p277
              replace q277 := eq_true q277
              have p278 : 0 ≤ (x6_3 : Int) := of_decide_eq_true asmS
              have q278 : x6_3 < (l0_2.length : Int) := of_decide_eq_true asmS
              obtain ⟨ad278, A278_2, c278_2, e278, hx278_0, hx278_1, hx278_2, hl278_2, hi278_2⟩ := at_T74 HR0_2.out x6_3 p278 q278
              obtain rfl : ad276 = ad278 := (by injection e278)
              replace hx278_0 := (HB.out.cell (World.block_lt_of_cell? w _ hx278_0)).trans hx278_0
              replace hx278_1 := (HB.out.cell (World.block_lt_of_cell? w _ hx278_1)).trans hx278_1
              replace hx278_2 := (HB.out.cell (World.block_lt_of_cell? w _ hx278_2)).trans hx278_2
              have HR278_2 := Aside0.mk hi278_2
              have HC278_2 := Aside0.mk hl278_2
              clear hi278_2 hl278_2
              replace p278 := eq_true p278
              replace q278 := eq_true q278
              have ea_ := Option.some.inj (hx276_2.symm.trans hx278_2)
              injection ea_ with ea_ en_ ec_
              subst ea_
              subst ec_
              clear en_
              have p279 : 0 ≤ (x6_3 : Int) := of_decide_eq_true asmS
              have q279 : x6_3 < (l1_2.length : Int) := of_decide_eq_true asmS
              obtain ⟨ad279, A279_2, c279_2, e279, hx279_0, hx279_1, hx279_2, hl279_2, hi279_2⟩ := at_T74 HR1_2.out x6_3 p279 q279
              obtain rfl : ad277 = ad279 := (by injection e279)
              replace hx279_0 := (HB.out.cell (World.block_lt_of_cell? w _ hx279_0)).trans hx279_0
              replace hx279_1 := (HB.out.cell (World.block_lt_of_cell? w _ hx279_1)).trans hx279_1
              replace hx279_2 := (HB.out.cell (World.block_lt_of_cell? w _ hx279_2)).trans hx279_2
              have HR279_2 := Aside0.mk hi279_2
              have HC279_2 := Aside0.mk hl279_2
              clear hi279_2 hl279_2
              replace p279 := eq_true p279
              replace q279 := eq_true q279
              have ea_ := Option.some.inj (hx277_2.symm.trans hx279_2)
              injection ea_ with ea_ en_ ec_
              subst ea_
              subst ec_
              clear en_
              go_wp2_with (first | (go_at_call 35; (try simp only [← List.length_take, ← List.length_drop]); (with_reducible refine (topiaryref01_Same.calls k3 _ _ ((rd_T74 l0_2 x6_3).f1) _ _ ((rd_T74 l1_2 x6_3).f1) false _ ?side1 ?side2 ?side3 ?side4 A43.out).mono ?_); (case side1 => exact CS (Kd.C_below HR278_2.out HB.out)); (case side2 => exact HC278_2.out); (case side3 => exact CS (Kd.C_below HR279_2.out HB.out)); (case side4 => exact HC279_2.out); rintro e w' ⟨rfl, ⟨nd, rfl⟩⟩; (try first | exact ⟨rfl, _, World.drewN_drewN _ _ _⟩ | exact ⟨rfl, _, Eq.trans (World.drewN_drewN _ _ _) (congrArg (World.drewN _) (Nat.add_assoc _ _ _))⟩)))
              repeat (go_quiet (first | (go_at_call 35; (try simp only [← List.length_take, ← List.length_drop]); (with_reducible refine (topiaryref01_Same.calls k3 _ _ ((rd_T74 l0_2 x6_3).f1) _ _ ((rd_T74 l1_2 x6_3).f1) false _ ?side1 ?side2 ?side3 ?side4 A43.out).mono ?_); (case side1 => exact CS (Kd.C_below HR278_2.out HB.out)); (case side2 => exact HC278_2.out); (case side3 => exact CS (Kd.C_below HR279_2.out HB.out)); (case side4 => exact HC279_2.out); rintro e w' ⟨rfl, ⟨nd, rfl⟩⟩; (try first | exact ⟨rfl, _, World.drewN_drewN _ _ _⟩ | exact ⟨rfl, _, Eq.trans (World.drewN_drewN _ _ _) (congrArg (World.drewN _) (Nat.add_assoc _ _ _))⟩))); try go_wp2_with (first | (go_at_call 35; (try simp only [← List.length_take, ← List.length_drop]); (with_reducible refine (topiaryref01_Same.calls k3 _ _ ((rd_T74 l0_2 x6_3).f1) _ _ ((rd_T74 l1_2 x6_3).f1) false _ ?side1 ?side2 ?side3 ?side4 A43.out).mono ?_); (case side1 => exact CS (Kd.C_below HR278_2.out HB.out)); (case side2 => exact HC278_2.out); (case side3 => exact CS (Kd.C_below HR279_2.out HB.out)); (case side4 => exact HC279_2.out); rintro e w' ⟨rfl, ⟨nd, rfl⟩⟩; (try first | exact ⟨rfl, _, World.drewN_drewN _ _ _⟩ | exact ⟨rfl, _, Eq.trans (World.drewN_drewN _ _ _) (congrArg (World.drewN _) (Nat.add_assoc _ _ _))⟩))))
              go_ret
              exact ⟨by first | rfl | (simp [errW_none, errW_some] <;> rfl) | (simp [*, errW_none, errW_some] <;> rfl), bS2 HB GE270 GE271⟩
           ·rw [if_neg c38] at H
            exact absurd H (by simp)
          ·rw [if_neg c37] at H
           exact absurd H (by simp)
         ·rw [if_neg c36] at H
          have c36b0 : decide (x6_3 < (l0_2.length : Int)) = false := decide_eq_false c36
          clear c36
          obtain rfl := Option.some.inj H
          have hnb51 := NB270_271.out
          have hnc51 := NB271_270.out
          obtain ⟨hcz52_0, hcz52_1, hcz52_2, hcz52_3, hfz52_0, hfz52_1, hfz52_2, hfz52_3⟩ := b4e BK270
          go_wp2
          repeat (go_quiet (fail); try go_wp2)
          go_ret
          exact ⟨by first | rfl | (simp [errW_none, errW_some] <;> rfl) | (simp [*, errW_none, errW_some] <;> rfl), bS2 HB GE270 GE271⟩
end Go.Proofs.Ytnkbgimihikhoaa.PVt
namespace Go.Proofs.Ytnkbgimihikhoaa.PVt
open Go.RowKit Go.Proofs.YtnkbgimihikhoaaW.PrintWords Go.Proofs.YtnkbgimihikhoaaW.PrintLast Go.Proofs.YtnkbgimihikhoaaW.PrintMore
set_option linter.unusedVariables false
mutual
/-- A tree's nodes in its order, each with how many are above it. -/
def flatD : Nat → S27 → List (Nat × S27)
  | d, ⟨k, t, x, a, l⟩ => (d, ⟨k, t, x, a, l⟩) :: flatDs (d + 1) l
def flatDs : Nat → List S27 → List (Nat × S27)
  | _, [] => []
  | d, x :: l => flatD d x ++ flatDs d l
end
mutual
/-- How many nodes there are. -/
def szT : S27 → Nat
  | ⟨_, _, _, _, l⟩ => 1 + szTs l
def szTs : List S27 → Nat
  | [] => 0
  | x :: l => szT x + szTs l
end
theorem flatD_eq (d : Nat) (x : S27) : flatD d x = (d, x) :: flatDs (d + 1) x.f4 := by cases x; simp [flatD]
theorem szT_eq (x : S27) : szT x = 1 + szTs x.f4 := by cases x; simp [szT]
theorem flatDs_append (d : Nat) : ∀ l m : List S27, flatDs d (l ++ m) = flatDs d l ++ flatDs d m
  | [], m => by simp [flatDs]
  | x :: l, m => by simp [flatDs, flatDs_append d l m]
theorem szTs_append : ∀ l m : List S27, szTs (l ++ m) = szTs l + szTs m
  | [], m => by simp [szTs]
  | x :: l, m => by simp [szTs, szTs_append l m]; omega
theorem take_snoc27 (l : List S27) {k : Nat} (h : k < l.length) : l.take (k + 1) = l.take k ++ [l.getD k z27] := by
  rw [List.take_add_one, List.getD_eq_getElem?_getD, List.getElem?_eq_getElem h]; rfl
theorem flatDs_snoc (d : Nat) (l : List S27) {k : Nat} (h : k < l.length) : flatDs d (l.take (k + 1)) = flatDs d (l.take k) ++ flatD d (l.getD k z27) := by
  rw [take_snoc27 l h, flatDs_append]; simp [flatDs]
theorem szTs_snoc (l : List S27) {k : Nat} (h : k < l.length) : szTs (l.take (k + 1)) = szTs (l.take k) + szT (l.getD k z27) := by
  rw [take_snoc27 l h, szTs_append]; simp [szTs]
theorem szTs_take (l : List S27) (k : Nat) : szTs (l.take k) ≤ szTs l := by
  have h := szTs_append (l.take k) (l.drop k)
  rw [List.take_append_drop] at h
  omega
theorem szT_kid (l : List S27) {k : Nat} (h : k < l.length) : szT (l.getD k z27) ≤ szTs l := by
  have h1 := szTs_snoc l h
  have h2 := szTs_take l (k + 1)
  omega
mutual
theorem flatD_length : ∀ (d : Nat) (x : S27), (flatD d x).length = szT x
  | d, ⟨k, t, x, a, l⟩ => by simp [flatD, szT, flatDs_length (d + 1) l]; omega
theorem flatDs_length : ∀ (d : Nat) (l : List S27), (flatDs d l).length = szTs l
  | _, [] => by simp [flatDs, szTs]
  | d, x :: l => by simp [flatDs, szTs, flatD_length d x, flatDs_length d l]
end
theorem szT_pos (x : S27) : 0 < szT x := by rw [szT_eq]; omega
theorem szTs_len : ∀ l : List S27, l.length ≤ szTs l
  | [] => by simp
  | x :: l => by have h1 := szT_pos x; have h2 := szTs_len l; simp [szTs]; omega
theorem flatDs_prefix (d : Nat) (l : List S27) (k : Nat) : flatDs d (l.take k) <+: flatDs d l := ⟨flatDs d (l.drop k), by rw [← flatDs_append, List.take_append_drop]⟩
/-- The node x lies as the cells cs, with all beneath it in blocks below n0. -/
def TK (w : World) (n0 : Nat) (x : S27) (cs : List Value) : Prop := Kd.FK k27 w (fun k => k < n0) x cs
theorem TK.low {w w1 : World} {n0 : Nat} {x : S27} {cs : List Value} (h : TK w n0 x cs) (hb : ∀ i, i < n0 → w1.heap[i]? = w.heap[i]?) : TK w1 n0 x cs := Kd.FK_step h (fun k hk _ => hb k hk)
theorem TK.open {w : World} {n0 : Nat} {x : S27} {cs : List Value} (h : TK w n0 x cs) : ∃ A4 c4 A5 c5, cs = [.int .i64 x.f0.f0, .int .i64 x.f0.f1, .string x.f1, .string x.f2, .slice A4 x.f3.length c4, .slice A5 x.f4.length c5] ∧ x.f3.length ≤ c4 ∧ Kd.F k99 w (fun k => k < n0) A4 x.f3.length x.f3 ∧ x.f4.length ≤ c5 ∧ Kd.F k27 w (fun k => k < n0) A5 x.f4.length x.f4 := k27_openF h
theorem heap27 : Kd.Heap k27 := Kd.heap_fix (fun d hd => Kd.heap_iso _ (Kd.heap_pair (Kd.heap_iso _ (Kd.heap_pair (Kd.heap_int _) (Kd.heap_int _))) (Kd.heap_pair Kd.heap_string (Kd.heap_pair Kd.heap_string (Kd.heap_pair (Kd.heap_slice 99 (Kd.heap_iso _ (Kd.heap_pair Kd.heap_string Kd.heap_string))) (Kd.heap_slice 27 hd))))))
theorem TK.of {w : World} {x : S27} {cs : List Value} (h : k27.K w x cs) : TK w w.heap.size x cs := fun _ hW => heap27.K (fun k hlt => hW k hlt hlt) h
/-- The cells of a kid. -/
def cells27 (w : World) (p : Addr) (x : S27) (A4 : Option Addr) (c4 : Nat) (A5 : Option Addr) (c5 : Nat) : Prop :=
  w.cell? p = some (.int .i64 x.f0.f0) ∧ w.cell? ⟨p.block, p.off + 1, none⟩ = some (.int .i64 x.f0.f1) ∧ w.cell? ⟨p.block, p.off + 2, none⟩ = some (.string x.f1) ∧ w.cell? ⟨p.block, p.off + 3, none⟩ = some (.string x.f2) ∧ w.cell? ⟨p.block, p.off + 4, none⟩ = some (.slice A4 x.f3.length c4) ∧ w.cell? ⟨p.block, p.off + 5, none⟩ = some (.slice A5 x.f4.length c5)
theorem kid_at {w : World} {n0 n : Nat} {A : Option Addr} {xs : List S27} (h : Kd.F k27 w (fun k => k < n0) A n xs) (k : Nat) (hk : k < n) :
    ∃ ad A4 c4 A5 c5, A = some ad ∧ cells27 w (ad.add (k * 6)) (xs.getD k z27) A4 c4 A5 c5 ∧ TK w n0 (xs.getD k z27) [.int .i64 (xs.getD k z27).f0.f0, .int .i64 (xs.getD k z27).f0.f1, .string (xs.getD k z27).f1, .string (xs.getD k z27).f2, .slice A4 (xs.getD k z27).f3.length c4, .slice A5 (xs.getD k z27).f4.length c5] := by
  obtain ⟨ad, c, e, _, hK, hc0, _⟩ := Kd.F_get h z27 (k : Int) (Int.natCast_nonneg _) (Int.ofNat_lt.2 hk)
  rw [Int.toNat_natCast] at hK hc0
  have hc : ∀ j u, c[j]? = some u → w.cell? (ad.add (k * 6 + j)) = some u := hc0
  obtain ⟨A4, c4, A5, c5, rfl, _⟩ := k27_openF hK
  exact ⟨ad, A4, c4, A5, c5, e, ⟨hc 0 _ rfl, by rw [← add_field _ _ 1 (by omega)]; exact hc 1 _ rfl, by rw [← add_field _ _ 2 (by omega)]; exact hc 2 _ rfl, by rw [← add_field _ _ 3 (by omega)]; exact hc 3 _ rfl, by rw [← add_field _ _ 4 (by omega)]; exact hc 4 _ rfl, by rw [← add_field _ _ 5 (by omega)]; exact hc 5 _ rfl⟩, hK⟩
/-- All lies as it lay below n0, and all nodes' cells but those of T. -/
structure Kw (n0 : Nat) (T : Nat → Prop) (W W' : World) : Prop where
  size : W.heap.size ≤ W'.heap.size
  low : ∀ i, i < n0 → W'.heap[i]? = W.heap[i]?
  cells : ∀ i c fr, ¬ T i → W.heap[i]? = some (.cells c 27 fr) → W'.heap[i]? = some (.cells c 27 fr)
theorem Kw.refl (n0 : Nat) (T : Nat → Prop) (W : World) : Kw n0 T W W := ⟨Nat.le_refl _, fun _ _ => rfl, fun _ _ _ _ h => h⟩
theorem Kw.trans {n0 : Nat} {T : Nat → Prop} {A B C : World} (h : Kw n0 T A B) (k : Kw n0 T B C) : Kw n0 T A C := ⟨Nat.le_trans h.size k.size, fun i hi => (k.low i hi).trans (h.low i hi), fun i c fr hT hi => k.cells i c fr hT (h.cells i c fr hT hi)⟩
theorem Kw.below {n0 : Nat} {T : Nat → Prop} {W W' : World} (h : Below W.heap.size W W') (hn : n0 ≤ W.heap.size) : Kw n0 T W W' := ⟨h.size, fun i hi => h.block i (Nat.lt_of_lt_of_le hi hn), fun i c fr _ hi => (h.block i (Array.getElem?_eq_some_iff.1 hi).1).trans hi⟩
theorem Kw.set {n0 o : Nat} {T : Nat → Prop} (W : World) (b : Nat) (v : Value) (hb : T b) (hn : n0 ≤ b) : Kw n0 T W (W.setCell ⟨b, o, none⟩ v) :=
  ⟨by rw [Mem.set_size]; exact Nat.le_refl _, fun i hi => Mem.set_other _ _ _ _ (by show i ≠ b; omega), fun i c fr hT hi => (Mem.set_other _ _ _ _ (by intro e; exact hT (e ▸ hb))).trans hi⟩
theorem Kw.box {n0 o b t : Nat} {T : Nat → Prop} {W : World} {c : Array Value} {fr : Nat × Nat} (h : W.heap[b]? = some (.cells c t fr)) (ht : t ≠ 27) (v : Value) (hn : n0 ≤ b) : Kw n0 T W (W.setCell ⟨b, o, none⟩ v) :=
  ⟨by rw [Mem.set_size]; exact Nat.le_refl _, fun i hi => Mem.set_other _ _ _ _ (by show i ≠ b; omega), fun i c fr hT hi => (Mem.set_other _ _ _ _ (by rintro rfl; rw [h] at hi; cases hi; exact ht rfl)).trans hi⟩
theorem Kw.grown {n0 : Nat} {T : Nat → Prop} {W W' : World} {row : Option Nat} (hg : W.grownBy W' row) (hr : ∀ k, row = some k → n0 ≤ k ∧ ∀ c fr, W.heap[k]? ≠ some (.cells c 27 fr)) (hn : n0 ≤ W.heap.size) : Kw n0 T W W' :=
  ⟨hg.size, fun i hi => hg.block i (Nat.lt_of_lt_of_le hi hn) (fun e => by have := (hr i e.symm).1; omega), fun i c fr hT hi => (hg.block i (Array.getElem?_eq_some_iff.1 hi).1 (fun e => (hr i e.symm).2 c fr hi)).trans hi⟩
theorem Kw.put {n0 : Nat} {T : Nat → Prop} (W : World) (l : Nat) (o o' : Obj) (hn : n0 ≤ l) (h : W.heap[l]? = some o) (hc : o.isCells = false) : Kw n0 T W (W.putObj l o') :=
  ⟨by simp, fun i hi => World.putObj_heap_other (by omega), fun i c fr _ hi => (World.putObj_heap_other (by rintro rfl; rw [h] at hi; cases hi; cases hc)).trans hi⟩
theorem Kw.mono {n0 n1 : Nat} {T T' : Nat → Prop} {W W' : World} (h : Kw n0 T W W') (hn : n1 ≤ n0) (hT : ∀ i, T i → T' i) : Kw n1 T' W W' := ⟨h.size, fun i hi => h.low i (Nat.lt_of_lt_of_le hi hn), fun i c fr hi => h.cells i c fr (fun h_ => hi (hT i h_))⟩
end Go.Proofs.Ytnkbgimihikhoaa.PVt
namespace Go.Proofs.Ytnkbgimihikhoaa.PVt
open Go.RowKit Go.Shelf Go.Proofs.YtnkbgimihikhoaaW.PrintWords Go.Proofs.YtnkbgimihikhoaaW.PrintLast Go.Proofs.YtnkbgimihikhoaaW.PrintMore
attribute [local go_sem] Oper.semAt_some
set_option linter.unusedVariables false
set_option linter.unusedSimpArgs false
/-- A node that is handed to a round: how many are above it, what it is, its cells. -/
structure Nd (w0 : World) (n0 : Nat) where
  d : Nat
  x : S27
  cs : List Value
  ok : TK w0 n0 x cs
  hd : d ≤ 1099511627776
def pl {w0 : World} {n0 : Nat} (p : Nd w0 n0) : Nat × S27 := (p.d, p.x)
def encN {w0 : World} {n0 : Nat} (p : Nd w0 n0) : Array Value := #[.int .i64 (p.d : Int), .agg p.cs.toArray]
theorem room_of_none {F : Fence} (hd : F.depth = none) (k : Nat) : F.room k := fun d h => by rw [hd] at h; cases h
theorem round_any {F : Fence} (hd : F.depth = none) {m m' : Nat} {P : Program} {l : Nat} {f : FuncId} {tmps : Array Value} {assign body : Code} {w : World} {R : Ending → World → Prop}
    (h : RoundIn F m P l f tmps assign body w R) : RoundIn F m' P l f tmps assign body w R := ⟨h.1, fun c cs _ => h.2 c cs (room_of_none hd _)⟩
theorem wrap_next {d m : Nat} (h : d + m ≤ 1099511627776) : wrap64 ((d : Int) + 1) = ((d + 1 : Nat) : Int) := by unfold wrap64; omega
theorem dec_lt {i q : Nat} (h : i < q) (hw : wrap64 ((i : Int) + 1) = ((i + 1 : Nat) : Int)) : q - (intOf (Value.int .i64 (wrap64 ((i : Int) + 1)))).toNat < q - (intOf (Value.int .i64 (i : Int))).toNat := by
  rw [hw]
  show q - (((i + 1 : Nat) : Int)).toNat < q - (i : Int).toNat
  omega
theorem wrap_kid {k n s z d : Nat} (h1 : k < n) (h2 : n ≤ s) (h3 : z = 1 + s) (h4 : d + z ≤ 1099511627776) : wrap64 ((k : Int) + 1) = ((k + 1 : Nat) : Int) := by unfold wrap64; omega
set_option maxHeartbeats 8000000 in
set_option maxRecDepth 100000 in
theorem walk_in (l n0 N B : Nat) (T : Nat → Prop) (w0 : World) (J Jx : List (Nd w0 n0) → World → Prop) (hJ : AbidesFrom B J)
    (hY : ∀ pre x W, J pre W → pre.length < N → YieldAt Fence.wide 1 Try.prog l (encN x) W fun e W' => (e = .returned (.bool true) ∧ J (pre ++ [x]) W' ∧ Kw n0 T W W') ∨ (e = .returned (.bool false) ∧ Jx (pre ++ [x]) W')) :
    ∀ (q : Nat) (d : Nat) (x : S27) (cs : List Value) (pre : List (Nd w0 n0)) (W : World), szT x ≤ q → d + szT x ≤ 1099511627776 → TK w0 n0 x cs → (∀ i, i < n0 → W.heap[i]? = w0.heap[i]?) → n0 ≤ W.heap.size → (∀ i, T i → i < W.heap.size) → J pre W → pre.length + szT x ≤ N →
      CallsIn Fence.wide 1 Try.prog 59 #[.agg cs.toArray, .int .i64 (d : Int), .func (.yield l) #[] #[]] W fun e W' =>
        (e = .returned (.bool true) ∧ (∃ ys, ys.map pl = flatD d x ∧ J (pre ++ ys) W') ∧ Kw n0 T W W') ∨ (e = .returned (.bool false) ∧ ∃ ys, ys.map pl <+: flatD d x ∧ Jx (pre ++ ys) W') := by
  intro q
  induction q with
  | zero =>
    intro d x cs pre W hq
    have := szT_pos x
    omega
  | succ q ih =>
    intro d x cs pre W hq hd hT hb hn hTl hJ0 hN
    have hsz := szT_eq x
    obtain ⟨A4, c4, A5, c5, hcs, l4, g4, l5, g5⟩ := hT.open
    subst hcs
    have HB := Aside0.mk hb
    have HTL := Aside0.mk hTl
    have hlen := szTs_len x.f4
    obtain ⟨fn, tmps, assign, body, hy, hR⟩ := hY pre ⟨d, x, _, hT, by omega⟩ (W.alloc (.cells #[.int .i64 x.f0.f0, .int .i64 x.f0.f1, .string x.f1, .string x.f2, .slice A4 x.f3.length c4, .slice A5 x.f4.length c5] 27)) (hJ _ _ _ none hJ0 (World.grownBy_alloc _ _ none) (fun r e => by cases e)) (by omega)
    dsimp only [encN] at hy
    have HF := Aside0.mk g5
    have HFF : Aside0 (flatD d x = (d, x) :: flatDs (d + 1) x.f4) := ⟨flatD_eq d x⟩
    have HT := Aside0.mk hT
    obtain ⟨nd, hnd⟩ : ∃ nd : Nd w0 n0, nd = ⟨d, x, _, hT, by omega⟩ := ⟨_, rfl⟩
    have HND : Aside0 (pl nd = (d, x)) := ⟨by rw [hnd]; rfl⟩
    rw [← hnd] at hR
    clear hnd hT hb hTl g4 g5 hJ0
    refine callsIn_of_wp Try.func59 rfl trivial ?_ rfl
    simp only [Try.ntmps59, List.size_toArray, List.length_cons, List.length_nil, Nat.reduceAdd, Nat.reduceSub, Array.replicate_succ, Array.replicate_zero, List.push_toArray, List.append_toArray, List.nil_append, List.cons_append]
    gi_wp2
    refine (round_any rfl hR).mono ?_
    rintro e W1 (⟨rfl, hJ1, hk1⟩ | ⟨rfl, hx1⟩)
    · have HJ1 := Aside0.mk hJ1
      have HK1 : Aside0 (Kw n0 T W W1) := ⟨(Kw.below (below_alloc (Below.refl _ _) _) hn).trans hk1⟩
      have HBX : Aside0 (W1.heap[W.heap.size]? = some (.cells #[.int .i64 x.f0.f0, .int .i64 x.f0.f1, .string x.f1, .string x.f2, .slice A4 x.f3.length c4, .slice A5 x.f4.length c5] 27 (0, 0))) := ⟨hk1.cells _ _ _ (fun h => Nat.lt_irrefl _ (HTL.out _ h)) (Mem.alloc_new _ _)⟩
      have b5 : W1.cell? ⟨W.heap.size, 5, none⟩ = some (.slice A5 x.f4.length c5) := Mem.cell_of HBX.out 5
      clear hJ1 hk1
      gi_wp2
      gi_loopw [17] (fun i wr => ∃ k : Nat, i = .int .i64 (k : Int) ∧ Aside0 (k ≤ x.f4.length) ∧ Aside0 (∃ ys, ys.map pl = flatDs (d + 1) (x.f4.take k) ∧ J (pre ++ nd :: ys) wr) ∧ Aside0 (Kw n0 T W wr))
        (fun i _ => x.f4.length - (intOf i).toNat)
      case atStart => exact ⟨0, rfl, ⟨Nat.zero_le _⟩, ⟨[], by simp [flatDs], HJ1.out⟩, HK1⟩
      case round =>
        obtain ⟨k, rfl, HKL, HJS, HKW⟩ := hrel
        by_cases hlt : k < x.f4.length
        · obtain ⟨ad, B4, e4, B5, e5, rfl, hcl, hTk⟩ := kid_at (Kd.F_step HF.out (fun i hi _ => (HKW.out.low i hi).trans (HB.out i hi))) k hlt
          have hTk0 : TK w0 n0 _ _ := hTk.low (fun i hi => ((HKW.out.low i hi).trans (HB.out i hi)).symm)
          have HS := Aside0.mk (flatDs_snoc (d + 1) x.f4 hlt)
          have HZ : Aside0 (szTs (x.f4.take (k + 1)) = szTs (x.f4.take k) + szT (x.f4.getD k z27) ∧ szTs (x.f4.take (k + 1)) ≤ szTs x.f4) := ⟨szTs_snoc x.f4 hlt, szTs_take _ _⟩
          obtain ⟨y, hy'⟩ : ∃ y, x.f4.getD k z27 = y := ⟨_, rfl⟩
          rw [hy'] at hcl hTk hTk0 HS HZ
          obtain ⟨p, hp⟩ : ∃ p, ad.add (k * 6) = p := ⟨_, rfl⟩
          rw [hp] at hcl
          obtain ⟨c0, c1, c2, c3, c4', c5'⟩ := hcl
          obtain ⟨ys, hys, hJs⟩ := HJS.out
          have HYS := Aside0.mk hys
          have hyl : ys.length = szTs (x.f4.take k) := by have := congrArg List.length hys; rw [List.length_map, flatDs_length] at this; exact this
          have IH := Aside0.mk (ih (d + 1) y _ (pre ++ nd :: ys) (wr.alloc (.cells #[.int .i64 y.f0.f0, .int .i64 y.f0.f1, .string y.f1, .string y.f2, .slice B4 y.f3.length e4, .slice B5 y.f4.length e5] 27))
            (by have := HZ.out; omega) (by have := HZ.out; omega) hTk0 (fun i hi => by
              have h1 : i < wr.heap.size := Nat.lt_of_lt_of_le (Nat.lt_of_lt_of_le hi hn) HKW.out.size
              exact ((below_alloc (Below.refl wr.heap.size wr) _).block i h1).trans ((HKW.out.low i hi).trans (HB.out i hi))) (Nat.le_trans (Nat.le_trans hn HKW.out.size) (by rw [Mem.alloc_size]; omega)) (fun i hi => by have := HTL.out i hi; have := HKW.out.size; rw [Mem.alloc_size]; omega)
            (hJ _ _ _ none hJs (World.grownBy_alloc _ _ none) (fun r e => by cases e)) (by rw [List.length_append, List.length_cons, hyl]; have := HZ.out; omega))
          have hw_ := wrap_next hd
          have hw2 := wrap_kid hlt hlen hsz hd
          clear hTk hTk0 hy' hys hJs hyl
          have hkn : (k : Int).toNat = k := Int.toNat_natCast k
          have hkp : (0 : Int) ≤ (k : Int) := Int.natCast_nonneg k
          clear hd hN hq hsz hlen
          gi_wp2_with (fail)
          refine ⟨trivial, ?_⟩
          refine (callsIn_wide.2 ((callsIn_wide (n := 1)).1 IH.out)).mono ?_
          rintro e W3 (⟨rfl, ⟨zs, hzs, hJ3⟩, hk3⟩ | ⟨rfl, zs, hzs, hx3⟩)
          · have HZS := Aside0.mk hzs
            have HJ3 : Aside0 (J (pre ++ nd :: (ys ++ zs)) W3) := ⟨by rw [List.append_assoc] at hJ3; exact hJ3⟩
            have HK3 : Aside0 (Kw n0 T W W3) := ⟨HKW.out.trans ((Kw.below (below_alloc (Below.refl _ _) _) (Nat.le_trans hn HKW.out.size)).trans hk3)⟩
            clear hzs hJ3 hk3 IH
            gi_wp2_with (fail)
            go_roundw
            case rel => exact ⟨k + 1, congrArg (Value.int .i64) hw2, ⟨hlt⟩, ⟨ys ++ zs, by rw [List.map_append, HYS.out, HZS.out, HS.out], HJ3.out⟩, HK3⟩
            case measure => exact dec_lt hlt hw2
          · have HZS := Aside0.mk hzs
            have HX3 : Aside0 (Jx (pre ++ nd :: (ys ++ zs)) W3) := ⟨by rw [List.append_assoc] at hx3; exact hx3⟩
            clear hzs hx3 IH
            gi_wp2_with (fail)
            refine bodyPost_ret (results_tmp rfl _ _ _) rfl ?_
            refine .inr ⟨rfl, nd :: (ys ++ zs), ?_, HX3.out⟩
            rw [HFF.out, List.map_cons, HND.out, List.map_append, HYS.out]
            have h1 : flatDs (d + 1) (x.f4.take k) ++ zs.map pl <+: flatDs (d + 1) (x.f4.take (k + 1)) := by rw [HS.out]; exact (List.prefix_append_right_inj _).2 HZS.out
            exact (List.prefix_cons_inj _).2 (h1.trans (flatDs_prefix _ _ _))
        · obtain rfl : k = x.f4.length := by have := HKL.out; omega
          gi_wp2
          refine bodyPost_ret (results_tmp rfl _ _ _) rfl ?_
          obtain ⟨ys, hys, hJs⟩ := HJS.out
          rw [List.take_length] at hys
          exact .inl ⟨rfl, ⟨nd :: ys, by rw [HFF.out, List.map_cons, HND.out, hys], hJs⟩, HKW.out⟩
    · gi_wp2
      refine bodyPost_ret (results_tmp rfl _ _ _) rfl ?_
      exact .inr ⟨rfl, [nd], by rw [HFF.out, List.map_cons, HND.out]; exact ⟨_, rfl⟩, hx1⟩
def cellsOf (x : S27) (A4 : Option Addr) (c4 : Nat) (A5 : Option Addr) (c5 : Nat) : Array Value := #[.int .i64 x.f0.f0, .int .i64 x.f0.f1, .string x.f1, .string x.f2, .slice A4 x.f3.length c4, .slice A5 x.f4.length c5]
/-- nodes hands back a function over a box of the tree. -/
theorem nodes_calls (w : World) (a b : Int) (t u : ByteArray) (v4 v5 : Value) :
    Calls Try.prog 41 #[.agg #[.int .i64 a, .int .i64 b, .string t, .string u, v4, v5]] w fun e w' => e = .returned (.func (.func 65) #[] #[.pointer (some ⟨w.heap.size, 0, none⟩)]) ∧ w' = w.alloc (.cells #[.int .i64 a, .int .i64 b, .string t, .string u, v4, v5] 27) := by
  go_enter Try.func41, Try.ntmps41
  go_wp2
  go_ret
  exact ⟨rfl, rfl⟩
set_option maxHeartbeats 8000000 in
set_option maxRecDepth 100000 in
theorem nodes_stops {w w0 : World} {n0 bx : Nat} {T : Nat → Prop} {x : S27} {A4 : Option Addr} {c4 : Nat} {A5 : Option Addr} {c5 : Nat} (hd : szT x ≤ 1099511627776)
    (hT : TK w0 n0 x [.int .i64 x.f0.f0, .int .i64 x.f0.f1, .string x.f1, .string x.f2, .slice A4 x.f3.length c4, .slice A5 x.f4.length c5]) (hb : ∀ i, i < n0 → w.heap[i]? = w0.heap[i]?) (hn : n0 ≤ w.heap.size) (hTl : ∀ i, T i → i < w.heap.size)
    (hbx : w.heap[bx]? = some (.cells #[.int .i64 x.f0.f0, .int .i64 x.f0.f1, .string x.f1, .string x.f2, .slice A4 x.f3.length c4, .slice A5 x.f4.length c5] 27 (0, 0))) :
    SeqStopsK Fence.wide 2 Try.prog 65 #[.pointer (some ⟨bx, 0, none⟩)] (encN (w0 := w0) (n0 := n0)) (Kw n0 T) (fun ys => ys.map pl = flatD 0 x) (fun ys => ys.map pl <+: flatD 0 x) (szT x) w := fun l J Jx W hW hJ hJx hY h0 => by
  have hbl := (Array.getElem?_eq_some_iff.1 hbx).1
  have hbW := (hW.block bx hbl).trans hbx
  have HW := Aside0.mk (walk_in l n0 (szT x) W.heap.size T w0 J Jx hJ hY (szT x) 0 x _ [] W (Nat.le_refl _) (by rw [Nat.zero_add]; exact hd) hT (fun i hi => (hW.block i (Nat.lt_of_lt_of_le hi hn)).trans (hb i hi)) (Nat.le_trans hn hW.size) (fun i hi => Nat.lt_of_lt_of_le (hTl i hi) hW.size) h0 (by simp))
  have a0 := Mem.cell_of hbW 0
  have a1 := Mem.cell_of hbW 1
  have a2 := Mem.cell_of hbW 2
  have a3 := Mem.cell_of hbW 3
  have a4 := Mem.cell_of hbW 4
  have a5 := Mem.cell_of hbW 5
  clear hbl hbW hbx hd hT hb hn hTl hY h0
  refine callsIn_of_wp Try.func65 rfl trivial ?_ rfl
  simp only [Try.ntmps65, List.append_toArray, List.size_toArray, List.length_cons, List.length_nil, Nat.reduceAdd, Nat.reduceSub, Array.replicate_succ, Array.replicate_zero, List.push_toArray, List.append_toArray, List.nil_append, List.cons_append]
  gi_wp2_with (fail)
  refine ⟨trivial, ?_⟩
  refine (callsIn_wide.2 ((callsIn_wide (n := 1)).1 HW.out)).mono ?_
  rintro e W3 (⟨rfl, ⟨zs, hzs, hJ3⟩, hk3⟩ | ⟨rfl, zs, hzs, hx3⟩)
  · have HZ := Aside0.mk hzs
    clear hzs
    gi_wp2_with (fail)
    go_end0
    exact ⟨⟨_, rfl⟩, .inl ⟨zs, HZ.out, hJ3⟩⟩
  · have HZ := Aside0.mk hzs
    clear hzs
    gi_wp2_with (fail)
    go_end0
    exact ⟨⟨_, rfl⟩, .inr ⟨zs, HZ.out, hx3⟩⟩
end Go.Proofs.Ytnkbgimihikhoaa.PVt
namespace Go.Proofs.Ytnkbgimihikhoaa.PVt
open Go.RowKit Go.Shelf Go.Proofs.YtnkbgimihikhoaaW.PrintWords Go.Proofs.YtnkbgimihikhoaaW.PrintLast Go.Proofs.YtnkbgimihikhoaaW.PrintMore
attribute [local go_sem] Oper.semAt_some max2_int min2_int max_two min_two
set_option linter.unusedVariables false
set_option linter.unusedSimpArgs false
/-- All blocks of U but those of T lie as they lay. -/
structure KeptT (T : Nat → Prop) (U W : World) : Prop where
  size : U.heap.size ≤ W.heap.size
  block : ∀ i, i < U.heap.size → ¬ T i → W.heap[i]? = U.heap[i]?
theorem KeptT.refl (T : Nat → Prop) (U : World) : KeptT T U U := ⟨Nat.le_refl _, fun _ _ _ => rfl⟩
theorem KeptT.on {T : Nat → Prop} {U W W' : World} (h : KeptT T U W) (hb : Below W.heap.size W W') : KeptT T U W' := ⟨Nat.le_trans h.size hb.size, fun i hi hn => (hb.block i (Nat.lt_of_lt_of_le hi h.size)).trans (h.block i hi hn)⟩
theorem KeptT.set {T : Nat → Prop} {b o : Nat} {U W : World} (h : KeptT T U W) (v : Value) (hb : T b) : KeptT T U (W.setCell ⟨b, o, none⟩ v) := ⟨Nat.le_trans h.size (Nat.le_of_eq (Mem.set_size _ _ _).symm), fun i hi hn => (Mem.set_other _ _ _ _ (fun e => hn (by cases e; exact hb))).trans (h.block i hi hn)⟩
theorem blk_lt' {W : World} {k : Nat} {o : Obj} (h : W.heap[k]? = some o) : k < W.heap.size := (Array.getElem?_eq_some_iff.1 h).1
theorem KeptT.cells {T : Nat → Prop} {k : Nat} {U W : World} {o : Obj} (h : KeptT T U W) (hu : U.heap[k]? = some o) (hn : ¬ T k) : W.heap[k]? = some o := (h.block k (blk_lt' hu) hn).trans hu
/-- What a loop keeps beside its own cells. -/
def LK (T : Nat → Prop) (n0 : Nat) (Wb U W : World) : Prop := KeptT T U W ∧ Below n0 Wb W
theorem LK_own {β : Type} {T : Nat → Prop} {n0 : Nat} {Wb U : World} (h1 : n0 ≤ Wb.heap.size) (h2 : n0 ≤ U.heap.size) : OwnFrom U.heap.size (fun (_ : β) W => LK T n0 Wb U W) := fun s X Y row hs hg hr =>
  ⟨⟨Nat.le_trans hs.1.size hg.size, fun i hi hn => (hg.block i (Nat.lt_of_lt_of_le hi hs.1.size) (fun e' => by have := (hr i e'.symm).1; omega)).trans (hs.1.block i hi hn)⟩, ownFrom_below h1 h2 () X Y row hs.2 hg hr⟩
theorem cells_own {β : Type} (B : Nat) (t : TypeId) (f : β → Array Value) : Own (fun s W => W.heap[B]? = some (.cells (f s) t (0, 0))) := fun s X Y row hs hg hrow =>
  (hg.block B (blk_lt' hs) (fun e' => by obtain ⟨o, ho, hc⟩ := hrow B e'.symm; rw [hs] at ho; cases ho; cases hc)).trans hs
def maxD (l : List (Nat × S27)) : Nat := l.foldl (fun m p => max m (p.1 + 1)) 0
theorem maxD_snoc (l : List (Nat × S27)) (p : Nat × S27) : maxD (l ++ [p]) = max (maxD l) (p.1 + 1) := by simp [maxD]
set_option maxHeartbeats 8000000 in
set_option maxRecDepth 100000 in
theorem depth_calls (w : World) (x : S27) (A4 : Option Addr) (c4 : Nat) (A5 : Option Addr) (c5 : Nat) (hd : szT x ≤ 1099511627776)
    (hT : TK w w.heap.size x [.int .i64 x.f0.f0, .int .i64 x.f0.f1, .string x.f1, .string x.f2, .slice A4 x.f3.length c4, .slice A5 x.f4.length c5]) :
    Calls Try.prog 33 #[.agg #[.int .i64 x.f0.f0, .int .i64 x.f0.f1, .string x.f1, .string x.f2, .slice A4 x.f3.length c4, .slice A5 x.f4.length c5]] w fun e w' => e = .returned (.int .i64 ((maxD (flatD 0 x) : Nat) : Int)) ∧ Below w.heap.size w w' := by
  have HT := Aside0.mk hT
  clear hT
  refine (callsIn_wide (n := 3)).1 ?_
  refine callsIn_of_wp_marks Try.func33 rfl trivial ?_ rfl
  simp only [Try.ntmps33, List.size_toArray, List.length_cons, List.length_nil, Nat.reduceAdd, Nat.reduceSub, Array.replicate_succ, Array.replicate_zero, List.push_toArray, List.append_toArray, List.nil_append, List.cons_append]
  gi_wp2_with (fail)
  refine ⟨trivial, ?_⟩
  refine (callsIn_wide.2 (nodes_calls _ _ _ _ _ _ _)).mono ?_
  rintro e w1 ⟨rfl, rfl⟩
  gi_wp2_with (fail)
  have hBU : Below w.heap.size w (((w.alloc (.cells #[.int .i64 x.f0.f0, .int .i64 x.f0.f1, .string x.f1, .string x.f2, .slice A4 x.f3.length c4, .slice A5 x.f4.length c5] 27)).alloc (.cells #[.int .i64 0] 3)).alloc (.cells #[.int .i64 x.f0.f0, .int .i64 x.f0.f1, .string x.f1, .string x.f2, .slice A4 x.f3.length c4, .slice A5 x.f4.length c5] 27)) := below_alloc (below_alloc (below_alloc (Below.refl _ _) _) _) _
  have hB3 : (((w.alloc (.cells #[.int .i64 x.f0.f0, .int .i64 x.f0.f1, .string x.f1, .string x.f2, .slice A4 x.f3.length c4, .slice A5 x.f4.length c5] 27)).alloc (.cells #[.int .i64 0] 3)).alloc (.cells #[.int .i64 x.f0.f0, .int .i64 x.f0.f1, .string x.f1, .string x.f2, .slice A4 x.f3.length c4, .slice A5 x.f4.length c5] 27)).heap[w.heap.size + 1]? = some (.cells #[.int .i64 0] 3 (0, 0)) := Mem.alloc_old (Mem.alloc_new_at _ _ _ (by rw [Mem.alloc_size])) _
  have hBX : (((w.alloc (.cells #[.int .i64 x.f0.f0, .int .i64 x.f0.f1, .string x.f1, .string x.f2, .slice A4 x.f3.length c4, .slice A5 x.f4.length c5] 27)).alloc (.cells #[.int .i64 0] 3)).alloc (.cells #[.int .i64 x.f0.f0, .int .i64 x.f0.f1, .string x.f1, .string x.f2, .slice A4 x.f3.length c4, .slice A5 x.f4.length c5] 27)).heap[w.heap.size + 1 + 1]? = some (.cells #[.int .i64 x.f0.f0, .int .i64 x.f0.f1, .string x.f1, .string x.f2, .slice A4 x.f3.length c4, .slice A5 x.f4.length c5] 27 (0, 0)) := Mem.alloc_new_at _ _ _ (by rw [Mem.alloc_size, Mem.alloc_size])
  generalize ((w.alloc (.cells #[.int .i64 x.f0.f0, .int .i64 x.f0.f1, .string x.f1, .string x.f2, .slice A4 x.f3.length c4, .slice A5 x.f4.length c5] 27)).alloc (.cells #[.int .i64 0] 3)).alloc (.cells #[.int .i64 x.f0.f0, .int .i64 x.f0.f1, .string x.f1, .string x.f2, .slice A4 x.f3.length c4, .slice A5 x.f4.length c5] 27) = U at *
  refine wpIn_rangeFunc_ownH (F := Fence.wide) (n := 3) rfl (by decide) (gf := 65) (lb := #[.pointer (some ⟨w.heap.size + 1 + 1, 0, none⟩)]) rfl trivial (enters_of Try.func65 (by kernel_rfl) rfl)
    (nodes_stops (T := fun _ => False) hd HT.out (fun i hi => hBU.block i hi) hBU.size (fun _ h => h.elim) hBX) Kw.trans (fun W l o o' hl h1 h2 _ => Kw.put W l o o' (Nat.le_trans hBU.size hl) h1 h2) (Below.refl _ _) (fun _ => rfl)
    (fun pre W => W.heap[w.heap.size + 1]? = some (.cells #[.int .i64 ((maxD (pre.map pl) : Nat) : Int)] 3 (0, 0)) ∧ LK (fun i => i = w.heap.size + 1) w.heap.size w U W)
    (fun _ _ _ => False)
    (OwnFrom.and (Own.from (cells_own _ 3 (fun (pre : List (Nd w w.heap.size)) => #[.int .i64 ((maxD (pre.map pl) : Nat) : Int)])) _) (LK_own (Nat.le_refl _) hBU.size))
    (fun _ _ _ _ _ hs _ _ => hs)
    ⟨hB3, KeptT.refl _ _, hBU⟩
    (fun y a' _ => a' = { tmps := #[.agg #[.int .i64 x.f0.f0, .int .i64 x.f0.f1, .string x.f1, .string x.f2, .slice A4 x.f3.length c4, .slice A5 x.f4.length c5], .pointer (some ⟨w.heap.size, 0, none⟩), .int .i64 0, .pointer (some ⟨w.heap.size + 1, 0, none⟩), .int .i64 (y.d : Int), .agg #[.int .i64 x.f0.f0, .int .i64 x.f0.f1, .string x.f1, .string x.f2, .slice A4 x.f3.length c4, .slice A5 x.f4.length c5], .func (.func 65) #[] #[.pointer (some ⟨w.heap.size + 1 + 1, 0, none⟩)], .int .i64 (y.d : Int), .agg y.cs.toArray, undef, undef, undef, undef, undef], defers := [] })
    (fun y a' _ X Y row hs hg hr => hs)
    ?assign ?body ?done ?stop
  case assign =>
    rintro l pre y W K hI hK
    dsimp only [encN]
    gi_wp2
    exact hK _ _ ((KeepsOthers.refl _).from _) (Kw.refl _ _ _) hI rfl
  case body =>
    rintro l pre y a' W hl ⟨r, hr⟩ ⟨h3, hK, hB⟩ rfl hlt
    have hyd := y.hd
    have c3 := Mem.cell_of h3 0
    have f3 := Mem.free_of h3 0
    have hw_ := wrap_next (d := y.d) (m := 0) hyd
    have HI := Aside0.mk (And.intro h3 (And.intro hK hB))
    clear h3 hK hB hr hyd
    gi_wp2_with (fail)
    all_goals
      refine ⟨(KeepsOthers.setCell _ _ _).from _, Kw.box HI.out.1 (by decide) _ (Nat.le_succ _), ?_, HI.out.2.1.set _ rfl, HI.out.2.2.setCell (p := ⟨w.heap.size + 1, 0, none⟩) (Nat.le_succ _) _⟩
      rw [Mem.set_heap HI.out.1 0 _, List.map_append, List.map_singleton, maxD_snoc]
      refine congrArg (fun z => some (Obj.cells #[Value.int .i64 z] 3 (0, 0))) ?_
      show _ = ((max (maxD (pre.map pl)) (y.d + 1) : Nat) : Int)
      omega
  case done =>
    rintro D ys W hD hys ⟨h3, hK, hB⟩ hKD
    have c3 := Mem.cell_of h3 0
    rw [hys] at c3
    clear hys
    gi_wp2
    refine ⟨by simp, .inl ⟨_, _, rfl, run_takeDeferred hKD, ?_⟩⟩
    exact ⟨_, results_tmp rfl _ _ _, rfl, hB.trans (belowK_b (w := U) hBU.size W D _ _ hD hKD rfl rfl)⟩
  case stop =>
    rintro D c pre W _ _ h _
    exact h.elim
section
variable {P : Program} {ops : Array Oper} {rest : List Oper} {o : Oper} {a : Act} {Q : Exit → Act → World → Prop} {α : Type} {F : Fence} {nF : Nat}
/-- An append to a row of one's own, inside a fence. -/
theorem R_append_in (d : Kd α) {W : World} (base : Nat) (hgd : o.guard = none) (s x : Operand) (t e : TypeId) (z : Value) (bytes : Nat)
    (ho : o.op = .call { callee := .builtin .append, args := #[s, x], argTypes := #[t, t] })
    (ht : P.underlying t = some (.slice e)) (hinfo : (P.info? e).map (fun i => (i.zero, i.size, i.bytes)) = some (some z, d.sz, bytes)) (hz : z.cells.size = d.sz) (hs0 : 0 < d.sz) (hb0 : 0 < bytes)
    (v : Value) (xs : List α) (p : α) (cs : List Value) (ok okp : Nat → Prop) (hs : a.eval s = v) (hx : a.eval x = .slice (some ⟨W.heap.size, 0, none⟩) 1 1) (hp : d.M W base okp p cs) (hokp : ∀ k, okp k → ok k ∧ some k ≠ v.ownBlock) (hfresh : ∀ k, W.heap.size ≤ k → ok k)
    (HO : d.R e W base ok v xs) (hbase : base ≤ W.heap.size) (hl : (xs.length + 1) * bytes ≤ 140737488355328)
    (h : ∀ v1 w1, d.R e w1 base ok v1 (xs ++ [p]) → W.grownBy w1 v.ownBlock → wpListIn F nF P ops Q rest (a.put o.dst v1) w1) :
    wpListIn F nF P ops Q (o :: rest) a (W.alloc (.cells cs.toArray e)) := by
  obtain ⟨h0, inner, hown, hr⟩ := HO
  obtain ⟨i0, hi, hzz⟩ := Option.map_eq_some_iff.1 hinfo
  simp only [Prod.mk.injEq] at hzz
  obtain ⟨hz0, hz1, hz2⟩ := hzz
  have hlen : xs.length + 1 ≤ 140737488355328 := Nat.le_trans (Nat.le_mul_of_pos_right _ hb0) hl
  have hys := d.K_len (d.K_of_M hp)
  refine Go.wpListIn_append_own_at (w := W.alloc (.cells cs.toArray e)) hgd s x t ho base e i0 z d.sz bytes ht hi hz0 hz1 hz2 hz hs0 v xs.length inner hs (hown.alloc _) ⟨W.heap.size, 0, none⟩ 1 1 cs hx (by rw [hys]; simp)
    (by simpa using World.news_of_block (cs := cs.toArray) (t := e) (fr := (0, 0)) (heap_alloc_new W (.cells cs.toArray e))) (d.K_one (d.K_of_M hp)) (by simp only [maxLen]; omega) hl (by simp; omega) ?_
  intro v1 w1 hown1 hg _ hat
  have hg1 := World.grownBy.trans (World.grownBy_alloc W _ _) hg
  refine h v1 w1 (Kd.R_appended h0 hr hp hokp hfresh hown1 hg1 ?_) hg1
  rcases hat with hat | hat
  · exact .inl hat
  · exact .inr ⟨_, hat, by simp⟩
end
def keysP (l : List (Nat × S27)) : List S23 := l.map fun p => p.2.f0
theorem R_of_own_grown {α : Type} {d : Kd α} {e B : Nat} {base : Nat} {X Y : World} {v : Value} {xs : List α} {row : Option Nat} (h : d.R e X base (fun _ => True) v xs) (hg : X.grownBy Y row) (hr : ∀ r, row = some r → B ≤ r ∧ ∃ o : Obj, X.heap[r]? = some o ∧ o.isCells = false) : d.R e Y base (fun _ => True) v xs :=
  Kd.R_mono (Kd.R_grown (Kd.R_bound h) hg (fun k hk e' => by obtain ⟨_, _, _, q, _, cells, hc⟩ := hk; obtain ⟨_, o, ho, hn⟩ := hr k e'.symm; rw [hc] at ho; cases ho; cases hn)) (fun _ _ => trivial)
/-- Between two rounds: the keys that have come. -/
def KeysI (w0 : World) (n0 b3 : Nat) (Wb U : World) (pre : List (Nd w0 n0)) (W : World) : Prop :=
  (∃ v, W.heap[b3]? = some (.cells #[v] 48 (0, 0)) ∧ k23.R 23 W U.heap.size (fun _ => True) v (keysP (pre.map pl))) ∧ LK (fun i => i = b3) Wb.heap.size Wb U W
theorem KeysI_own {w0 : World} {n0 b3 : Nat} {Wb U : World} (h2 : Wb.heap.size ≤ U.heap.size) : OwnFrom U.heap.size (KeysI w0 n0 b3 Wb U) := fun s X Y row hs hg hr => by
  obtain ⟨⟨v, hb, hR⟩, hL⟩ := hs
  exact ⟨⟨v, (Own.from (cells_own b3 48 (fun (_ : Unit) => #[v])) U.heap.size) () X Y row hb hg hr, R_of_own_grown hR hg hr⟩, LK_own (β := Unit) (Nat.le_refl _) h2 () X Y row hL hg hr⟩
theorem LK.grown {T : Nat → Prop} {n0 : Nat} {Wb U W W' : World} {row : Option Nat} (h : LK T n0 Wb U W) (hg : W.grownBy W' row) (hr : ∀ k, row = some k → U.heap.size ≤ k) (hn : n0 ≤ U.heap.size) : LK T n0 Wb U W' :=
  ⟨⟨Nat.le_trans h.1.size hg.size, fun i hi hT => (hg.block i (Nat.lt_of_lt_of_le hi h.1.size) (fun e => by have := hr i e.symm; omega)).trans (h.1.block i hi hT)⟩, h.2.grown hg (Nat.le_trans hn h.1.size) (fun k e => Nat.le_trans hn (hr k e))⟩
theorem LK.on {T : Nat → Prop} {n0 : Nat} {Wb U W W' : World} (h : LK T n0 Wb U W) (hb : Below W.heap.size W W') (hn : n0 ≤ U.heap.size) : LK T n0 Wb U W' := ⟨h.1.on hb, h.2.trans (hb.mono (Nat.le_trans hn h.1.size))⟩
theorem LK.set {T : Nat → Prop} {n0 b o : Nat} {Wb U W : World} (h : LK T n0 Wb U W) (v : Value) (hT : T b) (hn : n0 ≤ b) : LK T n0 Wb U (W.setCell ⟨b, o, none⟩ v) := ⟨h.1.set v hT, h.2.setCell (p := ⟨b, o, none⟩) hn _⟩
set_option maxHeartbeats 8000000 in
set_option maxRecDepth 100000 in
theorem keys_calls (w : World) (x : S27) (A4 : Option Addr) (c4 : Nat) (A5 : Option Addr) (c5 : Nat) (hd : szT x ≤ 1099511627776)
    (hT : TK w w.heap.size x [.int .i64 x.f0.f0, .int .i64 x.f0.f1, .string x.f1, .string x.f2, .slice A4 x.f3.length c4, .slice A5 x.f4.length c5]) :
    Calls Try.prog 22 #[.agg #[.int .i64 x.f0.f0, .int .i64 x.f0.f1, .string x.f1, .string x.f2, .slice A4 x.f3.length c4, .slice A5 x.f4.length c5]] w fun e w' => ∃ v, e = .returned v ∧ k23.R 23 w' w.heap.size (fun _ => True) v (keysP (flatD 0 x)) ∧ Below w.heap.size w w' := by
  have HT := Aside0.mk hT
  clear hT
  refine (callsIn_wide (n := 3)).1 ?_
  refine callsIn_of_wp_marks Try.func22 rfl trivial ?_ rfl
  simp only [Try.ntmps22, List.size_toArray, List.length_cons, List.length_nil, Nat.reduceAdd, Nat.reduceSub, Array.replicate_succ, Array.replicate_zero, List.push_toArray, List.append_toArray, List.nil_append, List.cons_append]
  gi_wp2_with (fail)
  refine ⟨trivial, ?_⟩
  refine (callsIn_wide.2 (nodes_calls _ _ _ _ _ _ _)).mono ?_
  rintro e w1 ⟨rfl, rfl⟩
  gi_wp2_with (fail)
  have hBU : Below w.heap.size w (((w.alloc (.cells #[.int .i64 x.f0.f0, .int .i64 x.f0.f1, .string x.f1, .string x.f2, .slice A4 x.f3.length c4, .slice A5 x.f4.length c5] 27)).alloc (.cells #[.slice none 0 0] 48)).alloc (.cells #[.int .i64 x.f0.f0, .int .i64 x.f0.f1, .string x.f1, .string x.f2, .slice A4 x.f3.length c4, .slice A5 x.f4.length c5] 27)) := below_alloc (below_alloc (below_alloc (Below.refl _ _) _) _) _
  have hB3 : (((w.alloc (.cells #[.int .i64 x.f0.f0, .int .i64 x.f0.f1, .string x.f1, .string x.f2, .slice A4 x.f3.length c4, .slice A5 x.f4.length c5] 27)).alloc (.cells #[.slice none 0 0] 48)).alloc (.cells #[.int .i64 x.f0.f0, .int .i64 x.f0.f1, .string x.f1, .string x.f2, .slice A4 x.f3.length c4, .slice A5 x.f4.length c5] 27)).heap[w.heap.size + 1]? = some (.cells #[.slice none 0 0] 48 (0, 0)) := Mem.alloc_old (Mem.alloc_new_at _ _ _ (by rw [Mem.alloc_size])) _
  have hBX : (((w.alloc (.cells #[.int .i64 x.f0.f0, .int .i64 x.f0.f1, .string x.f1, .string x.f2, .slice A4 x.f3.length c4, .slice A5 x.f4.length c5] 27)).alloc (.cells #[.slice none 0 0] 48)).alloc (.cells #[.int .i64 x.f0.f0, .int .i64 x.f0.f1, .string x.f1, .string x.f2, .slice A4 x.f3.length c4, .slice A5 x.f4.length c5] 27)).heap[w.heap.size + 1 + 1]? = some (.cells #[.int .i64 x.f0.f0, .int .i64 x.f0.f1, .string x.f1, .string x.f2, .slice A4 x.f3.length c4, .slice A5 x.f4.length c5] 27 (0, 0)) := Mem.alloc_new_at _ _ _ (by rw [Mem.alloc_size, Mem.alloc_size])
  generalize ((w.alloc (.cells #[.int .i64 x.f0.f0, .int .i64 x.f0.f1, .string x.f1, .string x.f2, .slice A4 x.f3.length c4, .slice A5 x.f4.length c5] 27)).alloc (.cells #[.slice none 0 0] 48)).alloc (.cells #[.int .i64 x.f0.f0, .int .i64 x.f0.f1, .string x.f1, .string x.f2, .slice A4 x.f3.length c4, .slice A5 x.f4.length c5] 27) = U at *
  refine wpIn_rangeFunc_ownH (F := Fence.wide) (n := 3) rfl (by decide) (gf := 65) (lb := #[.pointer (some ⟨w.heap.size + 1 + 1, 0, none⟩)]) rfl trivial (enters_of Try.func65 (by kernel_rfl) rfl)
    (nodes_stops (T := fun _ => False) hd HT.out (fun i hi => hBU.block i hi) hBU.size (fun _ h => h.elim) hBX) Kw.trans (fun W l o o' hl h1 h2 _ => Kw.put W l o o' (Nat.le_trans hBU.size hl) h1 h2) (Below.refl _ _) (fun _ => rfl)
    (KeysI w w.heap.size (w.heap.size + 1) w U)
    (fun _ _ _ => False)
    (KeysI_own hBU.size)
    (fun _ _ _ _ _ hs _ _ => hs)
    ⟨⟨_, hB3, Kd.R_nil _ _ _ _ _⟩, KeptT.refl _ _, hBU⟩
    (fun y a' Wr => ∃ Bx, U.heap.size ≤ Bx ∧ Wr.heap[Bx]? = some (.cells y.cs.toArray 27 (0, 0)) ∧ a' = { tmps := #[.agg #[.int .i64 x.f0.f0, .int .i64 x.f0.f1, .string x.f1, .string x.f2, .slice A4 x.f3.length c4, .slice A5 x.f4.length c5], .pointer (some ⟨w.heap.size, 0, none⟩), .slice none 0 0, .pointer (some ⟨w.heap.size + 1, 0, none⟩), undef, .pointer (some ⟨Bx, 0, none⟩), .agg #[.int .i64 x.f0.f0, .int .i64 x.f0.f1, .string x.f1, .string x.f2, .slice A4 x.f3.length c4, .slice A5 x.f4.length c5], .func (.func 65) #[] #[.pointer (some ⟨w.heap.size + 1 + 1, 0, none⟩)], .int .i64 (y.d : Int), .agg y.cs.toArray, undef, undef, undef, undef, undef, undef], defers := [] })
    (fun y a' _ X Y row hs hg hr => by obtain ⟨Bx, h1, h2, h3⟩ := hs; exact ⟨Bx, h1, cells_own Bx 27 (fun (_ : Unit) => y.cs.toArray) () X Y row h2 hg (fun r e => (hr r e).2), h3⟩)
    ?assign ?body ?done ?stop
  case assign =>
    rintro l pre ⟨yd, y, ycs, yok, yhd⟩ W K hI hK
    obtain ⟨B4, e4, B5, e5, rfl, _⟩ := yok.open
    dsimp only [encN]
    gi_wp2
    have hbl : Below W.heap.size W (W.alloc (.cells #[.int .i64 y.f0.f0, .int .i64 y.f0.f1, .string y.f1, .string y.f2, .slice B4 y.f3.length e4, .slice B5 y.f4.length e5] 27)) := below_alloc (Below.refl _ _) _
    obtain ⟨⟨v, hv, hR⟩, hL⟩ := hI
    exact hK _ _ ((KeepsOthers.alloc _ _).from _) (Kw.below hbl hL.2.size) ⟨⟨v, Mem.alloc_old hv _, Kd.R_below hR hbl⟩, hL.on hbl hBU.size⟩ ⟨W.heap.size, hL.1.size, Mem.alloc_new _ _, rfl⟩
  case body =>
    rintro l pre ⟨yd, y, ycs, yok, yhd⟩ a' W hl ⟨r, hr⟩ ⟨⟨v, hv, hR⟩, hL⟩ ⟨Bx, hBx, bX, rfl⟩ hlt
    obtain ⟨B4, e4, B5, e5, rfl, _⟩ := yok.open
    have c3 := Mem.cell_of hv 0
    have x0 := Mem.cell_of bX 0
    have x1 := Mem.cell_of bX 1
    have HL := Aside0.mk hL
    have HV := Aside0.mk hv
    have HR := Aside0.mk hR
    clear hL hv bX hr
    gi_wp2_with (gi_at_builtin; refine R_append_in k23 (W := W) U.heap.size rfl _ _ 48 23 _ 16 rfl Try.underlying48 info23 rfl (by decide) (by decide) v (keysP (pre.map pl)) y.f0 [.int .i64 y.f0.f0, .int .i64 y.f0.f1] (fun _ => True) (fun _ => False) rfl rfl (k23_mkM _ _ _ _) (fun _ h => h.elim) (fun _ _ => trivial) HR.out HL.out.1.size ?len ?_; (case len => unfold keysP; rw [List.length_map, List.length_map]; omega); intro v1 w1 hR1 hg1; obtain ⟨A1, c1, rfl⟩ := Kd.R_slice hR1; have HR1 := Aside0.mk hR1; have HG1 := Aside0.mk hg1; have HV1 : Aside0 (w1.heap[w.heap.size + 1]? = some (.cells #[v] 48 (0, 0))) := ⟨(hg1.block _ (blk_lt' HV.out) (Kd.R_ne HR.out HV.out (by decide))).trans HV.out⟩; clear hR1 hg1 c3 x0 x1; have c3 := Mem.cell_of HV1.out 0; have f3 := Mem.free_of HV1.out 0)
    have hty := Kd.R_typed HR.out
    have hba := Kd.R_base HR.out
    refine ⟨((KeepsOthers.of_grownBy HG1.out (fun j o e ho => by obtain ⟨c_, hc_⟩ := hty j e; rw [hc_] at ho; cases ho; rfl)).trans (KeepsOthers.setCell _ _ _)).from _,
      (Kw.grown HG1.out (fun k e => ⟨Nat.le_trans hBU.size (hba k e), fun c_ fr_ hc_ => by obtain ⟨c2_, h2_⟩ := hty k e; rw [h2_] at hc_; cases hc_⟩) HL.out.2.size).trans (Kw.box HV1.out (by decide) _ (Nat.le_succ _)),
      ⟨_, Mem.set_heap HV1.out 0 _, ?_⟩, (HL.out.grown HG1.out hba hBU.size).set _ rfl (Nat.le_succ _)⟩
    rw [List.map_append]
    have hk : keysP (pre.map pl ++ [pl (⟨yd, y, _, yok, yhd⟩ : Nd w w.heap.size)]) = keysP (pre.map pl) ++ [y.f0] := by unfold keysP; rw [List.map_append]; rfl
    rw [List.map_singleton, hk]
    have h_ := Kd.R_set HR1.out HV1.out (by decide) 0 (.slice A1 ((keysP (pre.map pl)).length + 1) c1)
    rw [List.length_append] at h_
    exact h_
  case done =>
    rintro D ys W hD hys ⟨⟨v, hv, hR⟩, hL⟩ hKD
    have c3 := Mem.cell_of hv 0
    rw [hys] at hR
    clear hys
    gi_wp2
    refine ⟨by simp, .inl ⟨_, _, rfl, run_takeDeferred hKD, ?_⟩⟩
    exact ⟨_, results_tmp rfl _ _ _, v, rfl, Kd.R_lower (Kd.R_mono (Kd.R_move (Kd.R_bound hR) (fun k hk => World.putObj_heap_other (by rintro rfl; obtain ⟨_, _, _, q, _, cells, hc⟩ := hk; rw [hKD] at hc; cases hc))) (fun _ _ => trivial)) hBU.size, hL.2.trans (belowK_b (w := U) hBU.size W D _ _ hD hKD rfl rfl)⟩
  case stop =>
    rintro D c pre W _ _ h _
    exact h.elim
end Go.Proofs.Ytnkbgimihikhoaa.PVt
namespace Go.Proofs.Ytnkbgimihikhoaa.PVt
open Go.RowKit Go.Proofs.YtnkbgimihikhoaaW.PrintWords Go.Proofs.YtnkbgimihikhoaaW.PrintLast Go.Proofs.YtnkbgimihikhoaaW.PrintMore
set_option linter.unusedVariables false
set_option linter.unusedSimpArgs false
def keyV (k : S23) : Value := .agg #[.int .i64 k.f0, .int .i64 k.f1]
theorem check_int (em : Bool) (n : Nat) (w : World) (a : Int) : (Instr.checkKey em (n + 1) 3 (.int .i64 a)).run Try.prog w = .ok () w := by
  unfold Instr.checkKey
  have hu := Try.underlying3
  go_simp
theorem check_key (em : Bool) (w : World) (k : S23) : (Instr.checkKey em 10000 23 (keyV k)).run Try.prog w = .ok () w := by
  unfold keyV
  rw [show (10000 : Nat) = 9999 + 1 from rfl]
  unfold Instr.checkKey
  have hu := Try.underlying23
  have h1 := fun w => check_int em 9998 w k.f0
  have h2 := fun w => check_int em 9998 w k.f1
  go_simp
theorem eqK23 (d : Nat) (w : World) (x0 y0 x1 y1 : Int) :
    (Op.equalIn (d + 2) 23 (.agg #[.int .i64 x0, .int .i64 x1]) (.agg #[.int .i64 y0, .int .i64 y1])).run Try.prog w = .ok (x0 == y0 && (x1 == y1)) w := by
  refine eqA_of Try.underlying23 (by kernel_rfl) ?_
  refine eqf_cons (by rfl) (by go_simp; rfl) (by go_simp; rfl) (by go_simp) ?_
  exact eqf_last (by rfl) (by go_simp; rfl) (by go_simp; rfl) (by go_simp)
def sameK (x y : S23) : Bool := x.f0 == y.f0 && (x.f1 == y.f1)
theorem sameK_iff {x y : S23} : sameK x y = true ↔ x = y := by
  cases x; cases y
  simp [sameK]
theorem equal_key (w : World) (x y : S23) : (Op.equal 23 (keyV x) (keyV y)).run Try.prog w = .ok (sameK x y) w :=
  eqK23 (Op.maxDepth - 2) w x.f0 y.f0 x.f1 y.f1
/-- The entries of a map: keys and how often, in the order in which they came. -/
def ents : Nat → List (S23 × Int) → List MapEntry
  | _, [] => []
  | n, (k, v) :: t => { key := keyV k, val := .int .i64 v, born := n } :: ents (n + 1) t
def findP : List (S23 × Int) → S23 → Nat → Option (Nat × Value)
  | [], _, _ => none
  | (k', v) :: t, k, i => if sameK k k' = true then some (i, .int .i64 v) else findP t k (i + 1)
theorem ask_run (w : World) (k : S23) : ∀ (l : List (S23 × Int)) (n i : Nat), (Instr.findAsking 23 (keyV k) (ents n l) i).run Try.prog w = .ok (findP l k i) w
  | [], n, i => by simp [ents, Instr.findAsking, findP, Sem.run_pure]
  | (k', v) :: t, n, i => by
    unfold ents Instr.findAsking findP
    rw [Sem.run_bind, equal_key, Result.andThen_ok]
    cases sameK k k' with
    | true => simp [Sem.run_pure]
    | false => simpa using ask_run w k t (n + 1) (i + 1)
theorem find_run (w : World) (k : S23) (l : List (S23 × Int)) : (Instr.findKey 23 (keyV k) (ents 0 l)).run Try.prog w = .ok (findP l k 0) w := by
  unfold Instr.findKey
  have hu := Try.underlying23
  cases l with
  | nil => simp [ents, Instr.findNow, findP, go_sem, hu]
  | cons a t =>
    obtain ⟨k', v⟩ := a
    have h := ask_run w k ((k', v) :: t) 0 0
    unfold ents at h ⊢
    simp only [Sem.run_bind]
    rw [show (underlying 23).run Try.prog w = .ok (TypeDesc.struct #[{ name := "Count", type := 3, offset := 0, embedded := false, tag := "", pkgPath := "", byteOffset := 0 }, { name := "Replica", type := 3, offset := 1, embedded := false, tag := "", pkgPath := "", byteOffset := 8 }]) w from by simp [go_sem, hu], Result.andThen_ok]
    simp only [Instr.findNow, Instr.sameNow, keyV]
    exact h
/-- A map of one's own: block b, with such entries. -/
def MapS (W : World) (b : Nat) (l : List (S23 × Int)) : Prop := W.heap[b]? = some (.map (ents 0 l).toArray l.length)
def valP (l : List (S23 × Int)) (k : S23) : Value := match findP l k 0 with | some (_, v) => v | none => .int .i64 0
theorem und_run (W : World) : (underlying 70).run Try.prog W = .ok (TypeDesc.map 23 3) W := by
  have hu := Try.underlying70
  simp [go_sem, hu]
theorem zero_run (W : World) : (zeroValue 3).run Try.prog W = .ok (.int .i64 0) W := by
  have hu := Try.underlying3
  go_simp
theorem get_run {W : World} {b c : Nat} {es : Array MapEntry} (h : W.heap[b]? = some (.map es c)) : (getObj b).run Try.prog W = .ok (.map es c) W := by simp [getObj, Sem.run, h]
theorem set_run {W : World} {b c : Nat} {es : Array MapEntry} {o' : Obj} (h : W.heap[b]? = some (.map es c)) : (setObj b o').run Try.prog W = .ok () (W.putObj b o') := by
  simp [setObj, Sem.run, h, World.putObj]
theorem look_run {W : World} {b : Nat} {l : List (S23 × Int)} (h : MapS W b l) (k : S23) : (Instr.lookup 70 (.map (some b)) (keyV k) false).run Try.prog W = .ok (valP l k) W := by
  have e2 := get_run h
  have hf := find_run W k l
  have hc := fun em => check_key em W k
  unfold Instr.lookup valP
  simp only [Sem.run_bind, und_run, Result.andThen_ok, e2, Sem.run_pure, hc, hf]
  cases findP l k 0 with
  | none => simp [Sem.run_bind, zero_run, Sem.run_pure, Result.andThen_ok]
  | some r => simp [Sem.run_bind, Sem.run_pure, Result.andThen_ok]
theorem ents_append (l m : List (S23 × Int)) : ∀ n, ents n (l ++ m) = ents n l ++ ents (n + l.length) m := by
  induction l with
  | nil => intro n; simp [ents]
  | cons a t ih => intro n; obtain ⟨k, v⟩ := a; simp only [List.cons_append, ents, ih (n + 1), List.length_cons]; rw [show n + 1 + t.length = n + (t.length + 1) from by omega]
theorem entry_run {W : World} {b : Nat} {l : List (S23 × Int)} (h : MapS W b l) (k : S23) (hn : findP l k 0 = none) :
    (Instr.mapEntry 70 (.map (some b)) (keyV k)).run Try.prog W = .ok (.tuple #[.int .i64 0, .int .i64 (l.length : Int)]) (W.putObj b (.map (ents 0 (l ++ [(k, 0)])).toArray (l ++ [(k, 0)]).length)) := by
  have e2 := get_run h
  have hf := find_run W k l
  rw [hn] at hf
  have hc := fun em => check_key em W k
  have hs := fun o' => set_run (o' := o') h
  unfold Instr.mapEntry
  simp only [Sem.run_bind, und_run, Result.andThen_ok, e2, Sem.run_pure, hc, hf, zero_run, hs]
  rw [ents_append]
  simp [ents, goInt]
theorem ents_born : ∀ (l : List (S23 × Int)) (n : Nat), ∀ e ∈ ents n l, e.born < n + l.length
  | [], n, e, he => by cases he
  | (k, v) :: t, n, e, he => by
    unfold ents at he
    rcases List.mem_cons.1 he with rfl | he
    · show n < n + (t.length + 1); omega
    · have := ents_born t (n + 1) e he; simp only [List.length_cons]; omega
theorem ents_length : ∀ (l : List (S23 × Int)) (n : Nat), (ents n l).length = l.length
  | [], n => rfl
  | (k, v) :: t, n => by simp [ents, ents_length t (n + 1)]
theorem modify_last_ {α : Type} {f : α → α} {a : α} : ∀ (l : List α), (l ++ [a]).modify l.length f = l ++ [f a]
  | [] => rfl
  | b :: l => by simp only [List.cons_append, List.length_cons, List.modify_succ_cons, modify_last_ l]
theorem store_run {W : World} {b : Nat} {l : List (S23 × Int)} (k : S23) (v : Int) (h : MapS W b (l ++ [(k, 0)])) :
    (Instr.entryStore 70 (.map (some b)) (.int .i64 (l.length : Int)) (.int .i64 v)).run Try.prog W = .ok () (W.putObj b (.map (ents 0 (l ++ [(k, v)])).toArray (l ++ [(k, v)]).length)) := by
  have e2 := get_run h
  have hs := fun o' => set_run (o' := o') h
  have hlen : (ents 0 l).length = l.length := ents_length l 0
  have hb : ents 0 (l ++ [(k, 0)]) = ents 0 l ++ [{ key := keyV k, val := .int .i64 0, born := l.length }] := by rw [ents_append, Nat.zero_add]; rfl
  have hb2 : ents 0 (l ++ [(k, v)]) = ents 0 l ++ [{ key := keyV k, val := .int .i64 v, born := l.length }] := by rw [ents_append, Nat.zero_add]; rfl
  have hi : (ents 0 (l ++ [(k, 0)])).toArray.findIdx? (fun e => (e.born : Int) == (l.length : Int)) = some (ents 0 l).length := by
    rw [List.findIdx?_toArray, hb, List.findIdx?_append]
    have h1 : (ents 0 l).findIdx? (fun e => (e.born : Int) == (l.length : Int)) = none := by
      rw [List.findIdx?_eq_none_iff]
      intro e he
      have := ents_born l 0 e he
      simp only [beq_eq_false_iff_ne, ne_eq]
      omega
    rw [h1]
    simp
  have hm : (ents 0 (l ++ [(k, 0)])).toArray.modify (ents 0 l).length (fun e => { e with val := .int .i64 v }) = (ents 0 (l ++ [(k, v)])).toArray := by
    rw [hb, hb2, List.modify_toArray, modify_last_ (ents 0 l)]
  unfold Instr.entryStore
  have ha : (asInt (.int .i64 (l.length : Int))).run Try.prog W = .ok (l.length : Int) W := by simp [asInt, asIntOf, Sem.run_bind, Sem.run_pure, Result.andThen]
  simp only [Sem.run_bind, Result.andThen_ok, e2, ha, hi, hs]
  rw [hm, List.length_append, List.length_append]
  rfl
/-- A node's tag: the first one. -/
def tagP : List S52 → S23 → Option ByteArray
  | [], _ => none
  | m :: t, k => if sameK m.f0 k = true then some m.f1 else tagP t k
/-- A node's text: of the first register without a name. -/
def textP : List S111 → S23 → ByteArray
  | [], _ => ⟨#[]⟩
  | r :: t, k => if sameK r.f0 k = true then (if r.f1.toList = ([] : List UInt8) then (if r.f4 = true then ⟨#[]⟩ else r.f3) else textP t k) else textP t k
/-- A node's attributes. -/
def attrsP : List S111 → S23 → List S99
  | [], _ => []
  | r :: t, k => if sameK r.f0 k = true then (if r.f1.toList = ([] : List UInt8) then attrsP t k else (if r.f4 = true then attrsP t k else ⟨r.f1, r.f3⟩ :: attrsP t k)) else attrsP t k
/-- Who stands beneath a node at a slot. -/
def inP : List S97 → S23 → S23 → List S23
  | [], _, _ => []
  | x :: t, p, s => if sameK x.f1 p = true then (if sameK x.f2 s = true then x.f0 :: inP t p s else inP t p s) else inP t p s
/-- The slots beneath a node. -/
def slotsP : List S74 → S23 → List S23
  | [], _ => []
  | r :: t, k => if sameK r.f0 k = true then r.f1 else slotsP t k
def insP (P : List S97) (p : S23) : List S23 → List S23
  | [] => []
  | s :: t => inP P p s ++ insP P p t
/-- A Doc. -/
structure DocP where
  made : List S52
  placed : List S97
  rows : List S74
  regs : List S111
def kidsL (D : DocP) (k : S23) : List S23 := insP D.placed k (slotsP D.rows k)
/-- Has a key come? -/
def hasP (seen : List S23) (k : S23) : Bool := seen.any fun x => sameK x k
/-- Kids one behind another: each with all beneath it, and who has come by then. -/
def kidsF (D : DocP) (nd : S23 → ByteArray → List S23 → S27 × List S23) : List S23 → List S23 → List S27 × List S23
  | [], seen => ([], seen)
  | k :: t, seen => match tagP D.made k with
    | none => kidsF D nd t seen
    | some tag => if hasP seen k = true ∨ 8192 < seen.length then kidsF D nd t seen else
      let r := nd k tag seen
      let s := kidsF D nd t r.2
      (r.1 :: s.1, s.2)
/-- A node with all beneath it. -/
def nodeT (D : DocP) : Nat → S23 → ByteArray → List S23 → S27 × List S23
  | 0, k, tag, seen => (⟨k, tag, textP D.regs k, attrsP D.regs k, []⟩, seen ++ [k])
  | q + 1, k, tag, seen =>
    let r := kidsF D (nodeT D q) (kidsL D k) (seen ++ [k])
    (⟨k, tag, textP D.regs k, attrsP D.regs k, r.1⟩, r.2)
def rootTag : ByteArray := ⟨#[114, 111, 111, 116]⟩
/-- The tree of a Doc. -/
def ofT (D : DocP) : S27 × Int :=
  let r := nodeT D 8193 z23 rootTag []
  if 8192 < r.2.length then (z27, 3) else (r.1, 0)
theorem kidsF_grows {D : DocP} {nd : S23 → ByteArray → List S23 → S27 × List S23} (h : ∀ k t s, s.length ≤ (nd k t s).2.length) : ∀ l s, s.length ≤ (kidsF D nd l s).2.length
  | [], s => Nat.le_refl _
  | k :: t, s => by
    rw [kidsF]
    cases tagP D.made k with
    | none => exact kidsF_grows h t s
    | some tag =>
      dsimp only
      split
      · exact kidsF_grows h t s
      · exact Nat.le_trans (h k tag s) (kidsF_grows h t _)
theorem nodeT_grows (D : DocP) : ∀ q k t s, s.length + 1 ≤ (nodeT D q k t s).2.length
  | 0, k, t, s => by simp [nodeT]
  | q + 1, k, t, s => by
    rw [nodeT]
    have := kidsF_grows (D := D) (nd := nodeT D q) (fun k t s => Nat.le_of_succ_le (nodeT_grows D q k t s)) (kidsL D k) (s ++ [k])
    simpa using this
theorem nodeT_le (D : DocP) (q : Nat) (k : S23) (t : ByteArray) (s : List S23) : s.length ≤ (nodeT D q k t s).2.length := Nat.le_of_succ_le (nodeT_grows D q k t s)
theorem kidsF_le (D : DocP) (nd : S23 → ByteArray → List S23 → S27 × List S23) : ∀ l s, (kidsF D nd l s).1.length ≤ l.length
  | [], s => Nat.le_refl _
  | k :: t, s => by
    rw [kidsF]
    cases tagP D.made k with
    | none => exact Nat.le_succ_of_le (kidsF_le D nd t s)
    | some tag =>
      dsimp only
      split
      · exact Nat.le_succ_of_le (kidsF_le D nd t s)
      · exact Nat.succ_le_succ (kidsF_le D nd t _)
theorem inP_le : ∀ (P : List S97) (p s : S23), (inP P p s).length ≤ P.length
  | [], _, _ => Nat.le_refl _
  | x :: t, p, s => by
    have := inP_le t p s
    rw [inP]
    split
    · split
      · simp only [List.length_cons]; omega
      · simp only [List.length_cons]; omega
    · simp only [List.length_cons]; omega
theorem insP_le (P : List S97) (p : S23) : ∀ l : List S23, (insP P p l).length ≤ l.length * P.length
  | [] => by simp [insP]
  | s :: t => by
    have h1 := inP_le P p s
    have h2 := insP_le P p t
    rw [insP, List.length_append, List.length_cons, Nat.add_mul, Nat.one_mul]
    omega
/-- A small Doc. -/
structure Small (D : DocP) : Prop where
  made : D.made.length ≤ 600
  placed : D.placed.length ≤ 600
  rows : D.rows.length ≤ 600
  regs : D.regs.length ≤ 600
  slots : ∀ r ∈ D.rows, r.f1.length ≤ 600
theorem slotsP_le : ∀ (l : List S74) (k : S23), (∀ r ∈ l, r.f1.length ≤ 600) → (slotsP l k).length ≤ 600
  | [], k, _ => by simp [slotsP]
  | r :: t, k, h => by
    rw [slotsP]
    split
    · exact h r List.mem_cons_self
    · exact slotsP_le t k (fun x hx => h x (List.mem_cons_of_mem _ hx))
theorem kidsL_le {D : DocP} (h : Small D) (k : S23) : (kidsL D k).length ≤ 360000 := by
  have h1 := insP_le D.placed k (slotsP D.rows k)
  have h2 := slotsP_le D.rows k h.slots
  have h3 : (slotsP D.rows k).length * D.placed.length ≤ 600 * 600 := Nat.mul_le_mul h2 h.placed
  exact Nat.le_trans h1 h3
end Go.Proofs.Ytnkbgimihikhoaa.PVt
namespace Go.Proofs.Ytnkbgimihikhoaa.PVt
open Go.RowKit Go.Shelf Go.Proofs.YtnkbgimihikhoaaW.PrintWords Go.Proofs.YtnkbgimihikhoaaW.PrintLast Go.Proofs.YtnkbgimihikhoaaW.PrintMore
attribute [local go_sem] Oper.semAt_some
set_option linter.unusedVariables false
set_option linter.unusedSimpArgs false
/-- All lies as it lay below n0, and all cells of a type. -/
structure KT (t n0 : Nat) (W W' : World) : Prop where
  size : W.heap.size ≤ W'.heap.size
  low : ∀ i : Nat, i < n0 → W'.heap[i]? = W.heap[i]?
  cells : ∀ (i : Nat) (c : Array Value) (fr : Nat × Nat), W.heap[i]? = some (Obj.cells c t fr) → W'.heap[i]? = some (.cells c t fr)
theorem KT.refl (t n0 : Nat) (W : World) : KT t n0 W W := ⟨Nat.le_refl _, fun _ _ => rfl, fun _ _ _ h => h⟩
theorem KT.trans {t n0 : Nat} {A B C : World} (h : KT t n0 A B) (k : KT t n0 B C) : KT t n0 A C := ⟨Nat.le_trans h.size k.size, fun i hi => (k.low i hi).trans (h.low i hi), fun i c fr hi => k.cells i c fr (h.cells i c fr hi)⟩
theorem KT.below {t n0 : Nat} {W W' : World} (h : Below W.heap.size W W') (hn : n0 ≤ W.heap.size) : KT t n0 W W' := ⟨h.size, fun i hi => h.block i (Nat.lt_of_lt_of_le hi hn), fun i c fr hi => (h.block i (blk_lt' hi)).trans hi⟩
theorem KT.put {t n0 : Nat} (W : World) (l : Nat) (o o' : Obj) (hn : n0 ≤ l) (h : W.heap[l]? = some o) (hc : o.isCells = false) : KT t n0 W (W.putObj l o') :=
  ⟨by simp, fun i hi => World.putObj_heap_other (by omega), fun i c fr hi => (World.putObj_heap_other (by rintro rfl; rw [h] at hi; cases hi; cases hc)).trans hi⟩
theorem KT.set {t u n0 o b : Nat} {W : World} {c : Array Value} {fr : Nat × Nat} (h : W.heap[b]? = some (.cells c u fr)) (ht : u ≠ t) (v : Value) (hn : n0 ≤ b) : KT t n0 W (W.setCell ⟨b, o, none⟩ v) :=
  ⟨by rw [Mem.set_size]; exact Nat.le_refl _, fun i hi => Mem.set_other _ _ _ _ (by show i ≠ b; omega), fun i c fr hi => (Mem.set_other _ _ _ _ (by rintro rfl; rw [h] at hi; cases hi; exact ht rfl)).trans hi⟩
theorem rev_take {n k : Nat} (h : k < n) : (List.range n).reverse.take (n - k) = (List.range n).reverse.take (n - (k + 1)) ++ [k] := by
  rw [show n - k = n - (k + 1) + 1 from by omega, List.take_add_one]
  congr 1
  rw [List.getElem?_reverse (by rw [List.length_range]; omega), List.length_range, List.getElem?_range (by omega)]
  simp
  omega
theorem rev_all (n : Nat) : (List.range n).reverse.take n = (List.range n).reverse := by
  rw [List.take_of_length_le]
  simp
theorem rev_none (n : Nat) : (List.range n).reverse.take (n - n) = [] := by simp
theorem wrap_back' {k : Nat} (h : k < 4611686018427387904) : wrap64 ((k : Int) - 1) = (k : Int) - 1 := by unfold wrap64; omega
theorem dec_back' (k : Nat) : (intOf (Value.int .i64 ((k : Int) - 1)) + 1).toNat < (intOf (Value.int .i64 (k : Int)) + 1).toNat := by
  show ((k : Int) - 1 + 1).toNat < ((k : Int) + 1).toNat
  omega
/-- A made node, as it is handed to a round. -/
def encM (l : List S52) (i : Nat) : Array Value := #[.int .i64 (i : Int), .agg #[.int .i64 (rd_T52 l (i : Int)).f0.f0, .int .i64 (rd_T52 l (i : Int)).f0.f1, .string (rd_T52 l (i : Int)).f1]]
theorem back69g (w : World) (A : Option Addr) (n c : Nat) : Calls Try.prog 69 #[.slice A n c] w fun e w' => e = .returned (.func (.func 83) #[] #[.pointer (some ⟨w.heap.size, 0, none⟩)]) ∧ w' = w.alloc (.cells #[.slice A n c] 34) := by
  go_enter Try.func69, Try.ntmps69
  go_wp2
  go_ret
  exact ⟨rfl, rfl⟩
theorem back70g (w : World) (A : Option Addr) (n c : Nat) : Calls Try.prog 70 #[.slice A n c] w fun e w' => e = .returned (.func (.func 84) #[] #[.pointer (some ⟨w.heap.size, 0, none⟩)]) ∧ w' = w.alloc (.cells #[.slice A n c] 36) := by
  go_enter Try.func70, Try.ntmps70
  go_wp2
  go_ret
  exact ⟨rfl, rfl⟩
set_option maxHeartbeats 8000000 in
set_option maxRecDepth 100000 in
theorem stops83g {w w0 : World} {n0 bx c : Nat} {A : Option Addr} {l : List S52} (hl : l.length < 4611686018427387904) (hF : Kd.F k52 w0 (fun k => k < n0) A l.length l) (hb : ∀ i, i < n0 → w.heap[i]? = w0.heap[i]?) (hn : n0 ≤ w.heap.size)
    (hbx : w.heap[bx]? = some (.cells #[.slice A l.length c] 34 (0, 0))) :
    SeqStopsK Fence.wide 2 Try.prog 83 #[.pointer (some ⟨bx, 0, none⟩)] (encM l) (KT 34 n0) (fun ys => ys = (List.range l.length).reverse) (fun _ => True) l.length w := fun lp J Jx W hW hJ hJx hY h0 => by
  have hbl := (Array.getElem?_eq_some_iff.1 hbx).1
  have HBW := Aside0.mk ((hW.block bx hbl).trans hbx)
  have HLO : Aside0 (∀ i, i < n0 → W.heap[i]? = w0.heap[i]?) := ⟨fun i hi => (hW.block i (Nat.lt_of_lt_of_le hi hn)).trans (hb i hi)⟩
  have HNS : Aside0 (n0 ≤ W.heap.size) := ⟨Nat.le_trans hn hW.size⟩
  have HF := Aside0.mk hF
  have HY := Aside0.mk hY
  have HJ0 := Aside0.mk h0
  have HL := Aside0.mk hl
  have c0 : W.cell? ⟨bx, 0, none⟩ = some (.slice A l.length c) := Mem.cell_of HBW.out 0
  have hw0 := wrap_back' hl
  clear hbl hbx hY hW h0 hb hn hF hl
  refine callsIn_of_wp Try.func83 rfl trivial ?_ rfl
  simp only [Try.ntmps83, List.append_toArray, List.size_toArray, List.length_cons, List.length_nil, Nat.reduceAdd, Nat.reduceSub, Array.replicate_succ, Array.replicate_zero, List.push_toArray, List.append_toArray, List.nil_append, List.cons_append]
  gi_wp2_with (fail)
  gi_loopw [3] (fun v wr => ∃ k : Nat, v = .int .i64 ((k : Int) - 1) ∧ Aside0 (k ≤ l.length) ∧ Aside0 (J ((List.range l.length).reverse.take (l.length - k)) wr) ∧ Aside0 (KT 34 n0 W wr)) (fun v _ => (intOf v + 1).toNat)
  case atStart => exact ⟨l.length, congrArg (Value.int .i64) hw0, ⟨Nat.le_refl _⟩, ⟨by rw [rev_none]; exact HJ0.out⟩, ⟨KT.refl _ _ _⟩⟩
  case round =>
    obtain ⟨k, rfl, HKL, HJ, HK⟩ := hrel
    clear c0 hw0
    have c0 : wr.cell? ⟨bx, 0, none⟩ = some (.slice A l.length c) := Mem.cell_of (HK.out.cells _ _ _ HBW.out) 0
    cases k with
    | zero =>
      have e1 : ((0 : Int) ≤ ((0 : Nat) : Int) - 1) = False := eq_false (by omega)
      gi_wp2_with (fail)
      go_end0
      exact ⟨⟨_, rfl⟩, .inl ⟨_, rfl, by have := HJ.out; rw [Nat.sub_zero, rev_all] at this; exact this⟩⟩
    | succ k =>
      have hkl : k < l.length := HKL.out
      have hk0 : (((k + 1 : Nat) : Int) - 1) = (k : Int) := by omega
      rw [hk0]
      have e1 : ((0 : Int) ≤ (k : Int)) = True := eq_true (Int.natCast_nonneg k)
      have p0 : (0 : Int) ≤ (k : Int) := Int.natCast_nonneg k
      have p1 : (k : Int) < (l.length : Int) := Int.ofNat_lt.2 hkl
      have HC := Kd.F_now (Kd.F_step HF.out (fun i hi _ => (HK.out.low i hi).trans (HLO.out i hi)))
      obtain ⟨ad, rfl, x0, x1, x2⟩ := at_T52 HC (k : Int) p0 p1
      rw [Int.toNat_natCast] at x0 x1 x2
      obtain ⟨fn, tmps, assign, body, hy, hR⟩ := HY.out _ k wr HJ.out (by rw [List.length_take, List.length_reverse, List.length_range]; omega)
      dsimp only [encM] at hy
      have hw1 : wrap64 ((k : Int) - 1) = (k : Int) - 1 := wrap_back' (Nat.lt_trans hkl HL.out)
      have hkn : (k : Int).toNat = k := Int.toNat_natCast k
      have HRT := Aside0.mk (rev_take hkl)
      have HKK := Aside0.mk hkl
      clear HC hkl
      gi_wp2_with (fail)
      refine (round_any rfl hR).mono ?_
      rintro e W3 (⟨rfl, hJ3, hk3⟩ | ⟨rfl, hx3⟩)
      · have HJ3 := Aside0.mk hJ3
        have HK3 := Aside0.mk (HK.out.trans hk3)
        clear hJ3 hk3 x0 x1 x2 c0 hy hR
        gi_wp2_with (fail)
        go_roundw
        case rel => exact ⟨k, congrArg (Value.int .i64) hw1, ⟨by have := HKK.out; omega⟩, ⟨by rw [HRT.out]; exact HJ3.out⟩, HK3⟩
        case measure =>
          rw [hw1]
          exact dec_back' k
      · have HX3 := Aside0.mk hx3
        clear hx3 x0 x1 x2 c0 hy hR
        gi_wp2_with (fail)
        refine bodyPost_ret (results_none rfl _ _ _) rfl ?_
        exact ⟨⟨_, rfl⟩, .inr ⟨_, trivial, HX3.out⟩⟩
/-- A row, as it is handed to a round: its place, and where its slots lie. -/
structure RB (w0 : World) (n0 : Nat) (l : List S74) where
  i : Nat
  A : Option Addr
  c : Nat
  hi : i < l.length
  hc : (rd_T74 l (i : Int)).f1.length ≤ c
  ok : Kd.F k23 w0 (fun k => k < n0) A (rd_T74 l (i : Int)).f1.length (rd_T74 l (i : Int)).f1
def encR {w0 : World} {n0 : Nat} {l : List S74} (r : RB w0 n0 l) : Array Value := #[.int .i64 (r.i : Int), .agg #[.int .i64 (rd_T74 l (r.i : Int)).f0.f0, .int .i64 (rd_T74 l (r.i : Int)).f0.f1, .slice r.A (rd_T74 l (r.i : Int)).f1.length r.c]]
theorem rowF_at {w : World} {n0 n : Nat} {A : Option Addr} {xs : List S74} (h : Kd.F k74 w (fun k => k < n0) A n xs) (k : Nat) (hk : k < n) :
    ∃ ad A2 c2, A = some ad ∧ w.cell? (ad.add (k * 3)) = some (.int .i64 (rd_T74 xs (k : Int)).f0.f0) ∧ w.cell? ⟨(ad.add (k * 3)).block, (ad.add (k * 3)).off + 1, none⟩ = some (.int .i64 (rd_T74 xs (k : Int)).f0.f1) ∧ w.cell? ⟨(ad.add (k * 3)).block, (ad.add (k * 3)).off + 2, none⟩ = some (.slice A2 (rd_T74 xs (k : Int)).f1.length c2) ∧ (rd_T74 xs (k : Int)).f1.length ≤ c2 ∧ Kd.F k23 w (fun k => k < n0) A2 (rd_T74 xs (k : Int)).f1.length (rd_T74 xs (k : Int)).f1 := by
  obtain ⟨ad, c, e, _, hK, hc0, _⟩ := Kd.F_get h z74 (k : Int) (Int.natCast_nonneg _) (Int.ofNat_lt.2 hk)
  rw [Int.toNat_natCast] at hc0
  have hc : ∀ j u, c[j]? = some u → w.cell? (ad.add (k * 3 + j)) = some u := hc0
  obtain ⟨A2, c2, rfl, l2, g2⟩ := k74_openF (x := rd_T74 xs (k : Int)) hK
  exact ⟨ad, A2, c2, e, hc 0 _ rfl, by rw [← add_field _ _ 1 (by omega)]; exact hc 1 _ rfl, by rw [← add_field _ _ 2 (by omega)]; exact hc 2 _ rfl, l2, g2⟩
theorem rowF_low {α : Type} {d : Kd α} {w w1 : World} {n0 n : Nat} {A : Option Addr} {xs : List α} (h : Kd.F d w (fun k => k < n0) A n xs) (hb : ∀ i, i < n0 → w1.heap[i]? = w.heap[i]?) : Kd.F d w1 (fun k => k < n0) A n xs := Kd.F_step h (fun k hk _ => hb k hk)
set_option maxHeartbeats 8000000 in
set_option maxRecDepth 100000 in
theorem stops84g {w w0 : World} {n0 bx c : Nat} {A : Option Addr} {l : List S74} (hl : l.length < 4611686018427387904) (hF : Kd.F k74 w0 (fun k => k < n0) A l.length l) (hb : ∀ i, i < n0 → w.heap[i]? = w0.heap[i]?) (hn : n0 ≤ w.heap.size)
    (hbx : w.heap[bx]? = some (.cells #[.slice A l.length c] 36 (0, 0))) :
    SeqStopsK Fence.wide 2 Try.prog 84 #[.pointer (some ⟨bx, 0, none⟩)] (encR (w0 := w0) (n0 := n0) (l := l)) (KT 36 n0) (fun ys => ys.map RB.i = (List.range l.length).reverse) (fun _ => True) l.length w := fun lp J Jx W hW hJ hJx hY h0 => by
  have hbl := (Array.getElem?_eq_some_iff.1 hbx).1
  have HBW := Aside0.mk ((hW.block bx hbl).trans hbx)
  have HLO : Aside0 (∀ i, i < n0 → W.heap[i]? = w0.heap[i]?) := ⟨fun i hi => (hW.block i (Nat.lt_of_lt_of_le hi hn)).trans (hb i hi)⟩
  have HNS : Aside0 (n0 ≤ W.heap.size) := ⟨Nat.le_trans hn hW.size⟩
  have HF := Aside0.mk hF
  have HY := Aside0.mk hY
  have HJ0 := Aside0.mk h0
  have HL := Aside0.mk hl
  have c0 : W.cell? ⟨bx, 0, none⟩ = some (.slice A l.length c) := Mem.cell_of HBW.out 0
  have hw0 := wrap_back' hl
  clear hbl hbx hY hW h0 hb hn hF hl
  refine callsIn_of_wp Try.func84 rfl trivial ?_ rfl
  simp only [Try.ntmps84, List.append_toArray, List.size_toArray, List.length_cons, List.length_nil, Nat.reduceAdd, Nat.reduceSub, Array.replicate_succ, Array.replicate_zero, List.push_toArray, List.append_toArray, List.nil_append, List.cons_append]
  gi_wp2_with (fail)
  gi_loopw [3] (fun v wr => ∃ k : Nat, v = .int .i64 ((k : Int) - 1) ∧ Aside0 (k ≤ l.length) ∧ Aside0 (∃ ys : List (RB w0 n0 l), ys.map RB.i = (List.range l.length).reverse.take (l.length - k) ∧ J ys wr) ∧ Aside0 (KT 36 n0 W wr)) (fun v _ => (intOf v + 1).toNat)
  case atStart => exact ⟨l.length, congrArg (Value.int .i64) hw0, ⟨Nat.le_refl _⟩, ⟨[], by rw [rev_none]; rfl, HJ0.out⟩, ⟨KT.refl _ _ _⟩⟩
  case round =>
    obtain ⟨k, rfl, HKL, HJ, HK⟩ := hrel
    clear c0 hw0
    have c0 : wr.cell? ⟨bx, 0, none⟩ = some (.slice A l.length c) := Mem.cell_of (HK.out.cells _ _ _ HBW.out) 0
    cases k with
    | zero =>
      have e1 : ((0 : Int) ≤ ((0 : Nat) : Int) - 1) = False := eq_false (by omega)
      gi_wp2_with (fail)
      go_end0
      exact ⟨⟨_, rfl⟩, .inl (by obtain ⟨ys, h1, h2⟩ := HJ.out; rw [Nat.sub_zero, rev_all] at h1; exact ⟨ys, h1, h2⟩)⟩
    | succ k =>
      have hkl : k < l.length := HKL.out
      have hk0 : (((k + 1 : Nat) : Int) - 1) = (k : Int) := by omega
      rw [hk0]
      have e1 : ((0 : Int) ≤ (k : Int)) = True := eq_true (Int.natCast_nonneg k)
      have p0 : (0 : Int) ≤ (k : Int) := Int.natCast_nonneg k
      have p1 : (k : Int) < (l.length : Int) := Int.ofNat_lt.2 hkl
      have HC0 := Kd.F_step HF.out (fun i hi _ => (HK.out.low i hi).trans (HLO.out i hi))
      have g0 : Kd.F k74 w0 (fun k => k < n0) A l.length l := HF.out
      obtain ⟨ys, hys, hjs⟩ := HJ.out
      have HYS := Aside0.mk hys
      obtain ⟨ad, A2, c2, rfl, x0, x1, x2, l2, g2⟩ := rowF_at HC0 k hkl
      obtain ⟨rb, hrb, he⟩ : ∃ rb : RB w0 n0 l, rb.i = k ∧ encR rb = #[.int .i64 (k : Int), .agg #[.int .i64 (rd_T74 l (k : Int)).f0.f0, .int .i64 (rd_T74 l (k : Int)).f0.f1, .slice A2 (rd_T74 l (k : Int)).f1.length c2]] := ⟨⟨k, A2, c2, hkl, l2, rowF_low g2 (fun i hi => ((HK.out.low i hi).trans (HLO.out i hi)).symm)⟩, rfl, rfl⟩
      have HI := Aside0.mk hrb
      obtain ⟨fn, tmps, assign, body, hy, hR⟩ := HY.out _ rb wr hjs (by have := congrArg List.length hys; rw [List.length_map, List.length_take, List.length_reverse, List.length_range] at this; omega)
      rw [he] at hy
      have hw1 : wrap64 ((k : Int) - 1) = (k : Int) - 1 := wrap_back' (Nat.lt_trans hkl HL.out)
      have hkn : (k : Int).toNat = k := Int.toNat_natCast k
      have HRT := Aside0.mk (rev_take hkl)
      have HKK := Aside0.mk hkl
      clear HC0 hkl g0 hys hjs l2 he hrb g2
      gi_wp2_with (fail)
      refine (round_any rfl hR).mono ?_
      rintro e W3 (⟨rfl, hJ3, hk3⟩ | ⟨rfl, hx3⟩)
      · have HJ3 := Aside0.mk hJ3
        have HK3 := Aside0.mk (HK.out.trans hk3)
        clear hJ3 hk3 x0 x1 x2 c0 hy hR
        gi_wp2_with (fail)
        go_roundw
        case rel => exact ⟨k, congrArg (Value.int .i64) hw1, ⟨by have := HKK.out; omega⟩, ⟨_, by rw [HRT.out, List.map_append, HYS.out, List.map_cons, HI.out]; rfl, HJ3.out⟩, HK3⟩
        case measure =>
          rw [hw1]
          exact dec_back' k
      · have HX3 := Aside0.mk hx3
        clear hx3 x0 x1 x2 c0 hy hR
        gi_wp2_with (fail)
        refine bodyPost_ret (results_none rfl _ _ _) rfl ?_
        exact ⟨⟨_, rfl⟩, .inr ⟨_, trivial, HX3.out⟩⟩
end Go.Proofs.Ytnkbgimihikhoaa.PVt
namespace Go.Proofs.Ytnkbgimihikhoaa.PVt
open Go.RowKit Go.Proofs.YtnkbgimihikhoaaW.PrintWords Go.Proofs.YtnkbgimihikhoaaW.PrintLast Go.Proofs.YtnkbgimihikhoaaW.PrintMore
open Go.Proofs.Ytnkbgimihikhoaa.Gm
set_option linter.unusedVariables false
set_option linter.unusedSimpArgs false
instance decS23 : DecidableEq S23 := fun a b => if h : sameK a b = true then isTrue (sameK_iff.1 h) else isFalse (fun e => h (sameK_iff.2 e))
theorem decide_sameK (a b : S23) : decide (a = b) = sameK a b := by
  cases h : sameK a b with
  | true => exact decide_eq_true (sameK_iff.1 h)
  | false => exact decide_eq_false (fun e => by rw [sameK_iff.2 e] at h; cases h)
theorem bits_key (k : S23) : Instr.sameBits 10000 (keyV k) (keyV k) = true := by
  rw [show (10000 : Nat) = 9998 + 1 + 1 from rfl]
  simp [Instr.sameBits, keyV]
/-- A map whose keys are stamps. -/
def mkS (M E : TypeId) (z : Value) (hM : Try.prog.underlying M = some (.map 23 E)) (hz : ∀ W, (zeroValue E).run Try.prog W = .ok z W) : Mk Try.prog S23 where
  M := M
  T := 23
  E := E
  enc := keyV
  z := z
  und := fun W => by simp [underlying, hM, Sem.run]
  zero := hz
  check := fun em k W => check_key em W k
  equal := fun x y W => by rw [equal_key, decide_sameK]
  kd := .struct #[{ name := "Count", type := 3, offset := 0, embedded := false, tag := "", pkgPath := "", byteOffset := 0 }, { name := "Replica", type := 3, offset := 1, embedded := false, tag := "", pkgPath := "", byteOffset := 8 }]
  undT := fun W => by have hu := Try.underlying23; simp [go_sem, hu]
  now := fun x y => rfl
  bits := bits_key
def keyP (p : S23 × S23) : Value := .agg #[.int .i64 p.1.f0, .int .i64 p.1.f1, .int .i64 p.2.f0, .int .i64 p.2.f1]
theorem bits_pair (k : S23 × S23) : Instr.sameBits 10000 (keyP k) (keyP k) = true := by
  rw [show (10000 : Nat) = 9998 + 1 + 1 from rfl]
  simp [Instr.sameBits, keyP]
theorem check_pair (em : Bool) (w : World) (k : S23 × S23) : (Instr.checkKey em 10000 115 (keyP k)).run Try.prog w = .ok () w := by
  unfold keyP
  have hc : ∀ (a b : Int), (Instr.checkKey em 9999 23 (.agg #[.int .i64 a, .int .i64 b])).run Try.prog w = .ok () w := by
    intro a b
    rw [show (9999 : Nat) = 9998 + 1 from rfl]
    unfold Instr.checkKey
    have hu := Try.underlying23
    have h1 := fun w => check_int em 9997 w a
    have h2 := fun w => check_int em 9997 w b
    go_simp
  have e1 := hc k.1.f0 k.1.f1
  have e2 := hc k.2.f0 k.2.f1
  rw [show (10000 : Nat) = 9999 + 1 from rfl]
  unfold Instr.checkKey
  have hu := Try.underlying115
  go_simp
  rw [show List.range' 0 2 = [0, 1] from rfl]
  simp only [List.forIn_cons, List.forIn_nil]
  go_simp
theorem equal_pair (w : World) (x y : S23 × S23) : (Op.equal 115 (keyP x) (keyP y)).run Try.prog w = .ok (decide (x = y)) w := by
  have hd : decide (x = y) = (sameK x.1 y.1 && sameK x.2 y.2) := by
    rw [← decide_sameK, ← decide_sameK]
    rcases x with ⟨x1, x2⟩
    rcases y with ⟨y1, y2⟩
    simp
  have e1 := eqA23 (Op.maxDepth - 3) w x.1.f0 y.1.f0 x.1.f1 y.1.f1
  have e2 := eqA23 (Op.maxDepth - 3) w x.2.f0 y.2.f0 x.2.f1 y.2.f1
  rw [hd]
  unfold Op.equal keyP sameK
  rw [show Op.maxDepth = (Op.maxDepth - 3 + 2) + 1 from rfl]
  have hu := Try.underlying115
  unfold Op.equalIn
  go_simp
  rw [show List.range' 0 2 = [0, 1] from rfl]
  simp only [List.forIn_cons, List.forIn_nil]
  go_simp
  by_cases h1 : x.1.f0 = y.1.f0
  · by_cases h2 : x.1.f1 = y.1.f1
    · by_cases h3 : x.2.f0 = y.2.f0
      · by_cases h4 : x.2.f1 = y.2.f1
        · simp [h1, h2, h3, h4]
        · simp [h1, h2, h3, h4]
      · simp [h1, h2, h3]
    · simp [h1, h2]
  · simp [h1]
def mkP (M E : TypeId) (z : Value) (hM : Try.prog.underlying M = some (.map 115 E)) (hz : ∀ W, (zeroValue E).run Try.prog W = .ok z W) : Mk Try.prog (S23 × S23) where
  M := M
  T := 115
  E := E
  enc := keyP
  z := z
  und := fun W => by simp [underlying, hM, Sem.run]
  zero := hz
  check := fun em k W => check_pair em W k
  equal := fun x y W => equal_pair W x y
  kd := .array 2 23
  undT := fun W => by have hu := Try.underlying115; simp [go_sem, hu]
  now := fun x y => rfl
  bits := bits_pair
theorem zero9 (W : World) : (zeroValue 9).run Try.prog W = .ok (.string ⟨#[]⟩) W := by have hu := Try.underlying9; go_simp
theorem zero37 (W : World) : (zeroValue 37).run Try.prog W = .ok (.slice none 0 0) W := by have hu := Try.underlying37; go_simp
theorem zero48 (W : World) : (zeroValue 48).run Try.prog W = .ok (.slice none 0 0) W := by have hu := Try.underlying48; go_simp
def dTag : Mk Try.prog S23 := mkS 78 9 (.string ⟨#[]⟩) Try.underlying78 zero9
def dReg : Mk Try.prog S23 := mkS 79 37 (.slice none 0 0) Try.underlying79 zero37
def dSlot : Mk Try.prog S23 := mkS 80 48 (.slice none 0 0) Try.underlying80 zero48
def dIn : Mk Try.prog (S23 × S23) := mkP 81 48 (.slice none 0 0) Try.underlying81 zero48
def dSeen : Mk Try.prog S23 := mkS 70 3 (.int .i64 0) Try.underlying70 zero_run
def tagsF (l : List S52) (pre : List Nat) : List (S23 × Value) := pre.foldl (fun f (i : Nat) => kput f (rd_T52 l (i : Int)).f0 (.string (rd_T52 l (i : Int)).f1)) []
theorem tagsF_snoc (l : List S52) (pre : List Nat) (i : Nat) : tagsF l (pre ++ [i]) = kput (tagsF l pre) (rd_T52 l (i : Int)).f0 (.string (rd_T52 l (i : Int)).f1) := by simp [tagsF]
theorem rd_T52_cons (m : S52) (l : List S52) (i : Nat) : rd_T52 (m :: l) ((i + 1 : Nat) : Int) = rd_T52 l (i : Int) := by unfold rd_T52; simp
theorem tagsF_look : ∀ (l : List S52) (k : S23), kget (tagsF l (List.range l.length).reverse) k = (tagP l k).map Value.string
  | [], k => rfl
  | m :: l, k => by
    have h1 : (List.range (m :: l).length).reverse = (List.range l.length).reverse.map (· + 1) ++ [0] := by
      rw [List.length_cons, List.range_succ_eq_map, List.reverse_cons, ← List.map_reverse]
    have h2 : ∀ (pre : List Nat) (f : List (S23 × Value)), (pre.map (· + 1)).foldl (fun f (i : Nat) => kput f (rd_T52 (m :: l) (i : Int)).f0 (.string (rd_T52 (m :: l) (i : Int)).f1)) f = pre.foldl (fun f (i : Nat) => kput f (rd_T52 l (i : Int)).f0 (.string (rd_T52 l (i : Int)).f1)) f := by
      intro pre
      induction pre with
      | nil => intro f; rfl
      | cons a t ih => intro f; rw [List.map_cons, List.foldl_cons, List.foldl_cons, ih, rd_T52_cons]
    rw [h1, tagsF_snoc, look_ins]
    have h3 : tagsF (m :: l) ((List.range l.length).reverse.map (· + 1)) = tagsF l (List.range l.length).reverse := h2 _ _
    rw [h3, tagsF_look l k, tagP]
    have h0 : rd_T52 (m :: l) ((0 : Nat) : Int) = m := rfl
    rw [h0]
    by_cases hk : sameK m.f0 k = true
    · rw [if_pos hk, if_pos (sameK_iff.1 hk).symm]; rfl
    · rw [if_neg hk, if_neg (fun e => hk (sameK_iff.2 e.symm))]
/-- The registers of a node. -/
def regsP (l : List S111) (k : S23) : List S111 := l.filter fun r => sameK r.f0 k
theorem regsP_snoc (l : List S111) (r : S111) (k : S23) : regsP (l ++ [r]) k = if sameK r.f0 k = true then regsP l k ++ [r] else regsP l k := by
  unfold regsP
  rw [List.filter_append]
  by_cases h : sameK r.f0 k = true
  · rw [if_pos h]; simp [h]
  · rw [if_neg h]; simp [h]
theorem inP_snoc (l : List S97) (x : S97) (p s : S23) : inP (l ++ [x]) p s = if sameK x.f1 p = true ∧ sameK x.f2 s = true then inP l p s ++ [x.f0] else inP l p s := by
  induction l with
  | nil =>
    rw [List.nil_append, inP, inP]
    by_cases h1 : sameK x.f1 p = true
    · by_cases h2 : sameK x.f2 s = true
      · simp [h1, h2, inP]
      · simp [h1, h2, inP]
    · simp [h1, inP]
  | cons a t ih =>
    rw [List.cons_append, inP, inP, ih]
    by_cases h : sameK x.f1 p = true ∧ sameK x.f2 s = true
    · rw [if_pos h, if_pos h]
      split
      · split
        · rfl
        · rfl
      · rfl
    · rw [if_neg h, if_neg h]
end Go.Proofs.Ytnkbgimihikhoaa.PVt
namespace Go.Proofs.Ytnkbgimihikhoaa.PVt
open Go.RowKit Go.Proofs.YtnkbgimihikhoaaW.PrintWords Go.Proofs.YtnkbgimihikhoaaW.PrintLast Go.Proofs.YtnkbgimihikhoaaW.PrintMore
set_option linter.unusedVariables false
def okB (c : Int) : Bool := decide (97 ≤ c ∧ c ≤ 122) || (decide (48 ≤ c ∧ c ≤ 57) || decide (c = 45))
/-- Do n bytes from i on stand in a name? -/
def okFrom (s : ByteArray) : Nat → Nat → Bool
  | 0, _ => true
  | n + 1, i => okB (bt s (i : Int)) && okFrom s n (i + 1)
def nameP (s : ByteArray) : Bool := decide (0 < s.size ∧ s.size ≤ 32) && (decide (97 ≤ bt s 0 ∧ bt s 0 ≤ 122) && okFrom s s.size 0)
theorem okFrom_succ (s : ByteArray) (n i : Nat) : okFrom s (n + 1) i = (okB (bt s (i : Int)) && okFrom s n (i + 1)) := rfl
theorem okB_t {c : Int} (h : (97 ≤ c ∧ c ≤ 122) ∨ (48 ≤ c ∧ c ≤ 57) ∨ c = 45) : okB c = true := by unfold okB; rcases h with h | h | h <;> simp [h]
theorem okB_f {c : Int} (h : ¬ ((97 ≤ c ∧ c ≤ 122) ∨ (48 ≤ c ∧ c ≤ 57) ∨ c = 45)) : okB c = false := by
  unfold okB
  rw [decide_eq_false (fun h1 => h (.inl h1)), decide_eq_false (fun h1 => h (.inr (.inl h1))), decide_eq_false (fun h1 => h (.inr (.inr h1)))]; rfl
theorem name_l (s : ByteArray) (hs : s.size ≤ 32) : ∀ (n i k : Nat), i + n = s.size → n + 1 ≤ k → change_Name.l0 k s (s.size : Int) (i : Int) = some (okFrom s n i)
  | 0, i, 0, h, hk => by omega
  | 0, i, k + 1, h, hk => by
    simp only [change_Name.l0]
    rw [if_neg (by omega)]
    rfl
  | n + 1, i, 0, h, hk => by omega
  | n + 1, i, k + 1, h, hk => by
    have go := name_l s hs n (i + 1) k (by omega) (by omega)
    have hw : wrap64 ((i : Int) + 1) = ((i + 1 : Nat) : Int) := by unfold wrap64; omega
    simp only [change_Name.l0]
    rw [if_pos (by omega), if_pos (by omega), if_pos (by omega), hw, go]
    rw [okFrom_succ]
    by_cases h1 : bt s (i : Int) < 97
    · rw [if_pos h1]
      by_cases h2 : bt s (i : Int) < 48
      · rw [if_pos h2]
        by_cases h3 : bt s (i : Int) = 45
        · rw [if_pos h3, okB_t (by omega), Bool.true_and]
        · rw [if_neg h3, okB_f (by omega), Bool.false_and]
      · rw [if_neg h2]
        by_cases h3 : bt s (i : Int) > 57
        · rw [if_pos h3, if_neg (by omega), okB_f (by omega), Bool.false_and]
        · rw [if_neg h3, okB_t (by omega), Bool.true_and]
    · rw [if_neg h1]
      by_cases h2 : bt s (i : Int) > 122
      · rw [if_pos h2, if_neg (by omega), if_pos (by omega), if_neg (by omega), okB_f (by omega), Bool.false_and]
      · rw [if_neg h2, okB_t (by omega), Bool.true_and]
theorem name_f (s : ByteArray) (k : Nat) (hk : 35 ≤ k) : change_Name.f k s = some (nameP s) := by
  obtain ⟨k, rfl⟩ : ∃ j, k = j + 1 := ⟨k - 1, by omega⟩
  unfold change_Name.f nameP
  simp only [change_Name.j0]
  by_cases h1 : s.size = 0
  · rw [if_pos (by omega), if_pos trivial, show decide (0 < s.size ∧ s.size ≤ 32) = false from decide_eq_false (by omega)]; rfl
  · rw [if_neg (by omega)]
    by_cases h2 : 32 < s.size
    · rw [if_pos (by omega), if_pos trivial, show decide (0 < s.size ∧ s.size ≤ 32) = false from decide_eq_false (by omega)]; rfl
    · rw [if_neg (by omega), if_pos (by omega), show decide (0 < s.size ∧ s.size ≤ 32) = true from decide_eq_true (by omega)]
      by_cases h3 : bt s 0 < 97
      · rw [if_pos h3, if_pos trivial, show decide (97 ≤ bt s 0 ∧ bt s 0 ≤ 122) = false from decide_eq_false (by omega)]; rfl
      · rw [if_neg h3]
        by_cases h4 : bt s 0 > 122
        · rw [show decide (bt s 0 > 122) = true from decide_eq_true h4, if_pos rfl, show decide (97 ≤ bt s 0 ∧ bt s 0 ≤ 122) = false from decide_eq_false (by omega)]; rfl
        · rw [show decide (bt s 0 > 122) = false from decide_eq_false h4, if_neg (by simp), show decide (97 ≤ bt s 0 ∧ bt s 0 ≤ 122) = true from decide_eq_true (by omega)]
          have h := name_l s (by omega) s.size 0 k (by omega) (by omega)
          rw [show ((0 : Nat) : Int) = 0 from rfl] at h
          rw [h]; rfl
/-- Why a node's attributes from i on are not right. -/
def attrsFrom (l : List S99) : Nat → Nat → Int
  | 0, _ => 0
  | n + 1, i => if nameP (l.getD i z99).f0 = true then (if (l.getD i z99).f1.size > 256 then 3 else if 0 < i ∧ ¬ Op.bytesLess (l.getD (i - 1) z99).f0.toList (l.getD i z99).f0.toList = true then 2 else attrsFrom l n (i + 1)) else 8
/-- Why a node's own fields are not right. -/
def nodeP (x : S27) : Int := if nameP x.f1 = true then (if x.f2.size > 256 then 3 else if x.f3.length > 4096 then 3 else attrsFrom x.f3 x.f3.length 0) else 8
theorem rd99 (l : List S99) (i : Nat) : rd_T99 l (i : Int) = l.getD i z99 := by unfold rd_T99; rw [Int.toNat_natCast]
set_option linter.unusedSimpArgs false
theorem drawn_below {w w' : World} (h : Drawn0 w w') : Below w.heap.size w w' := by
  obtain ⟨n, rfl⟩ := h
  exact pw_below_drewN (Below.refl _ _) n
theorem name_calls (w : World) (s : ByteArray) : Calls Try.prog 67 #[.string s] w fun e w' => e = .returned (.bool (nameP s)) ∧ Below w.heap.size w w' :=
  (change_Name.calls 35 s (nameP s) w (name_f s 35 (Nat.le_refl _))).mono fun e w' ⟨h1, h2⟩ => ⟨h1, drawn_below h2⟩
theorem next_kid {k n : Nat} (h : k < n) (hn : n ≤ 4096) : wrap64 ((k : Int) + 1) = ((k + 1 : Nat) : Int) := by unfold wrap64; omega
theorem dec_kid {i q : Nat} (h : i < q) (hw : wrap64 ((i : Int) + 1) = ((i + 1 : Nat) : Int)) : q - (intOf (Value.int .i64 (wrap64 ((i : Int) + 1)))).toNat < q - (intOf (Value.int .i64 (i : Int))).toNat := by
  rw [hw]
  show q - (((i + 1 : Nat) : Int)).toNat < q - (i : Int).toNat
  omega
theorem wrap_pred {k n : Nat} (h0 : 0 < k) (h1 : k < n) (h2 : ¬ 4096 < n) : IntKind.i64.wrap ((k : Int) - 1) = ((k - 1 : Nat) : Int) := by rw [IntWalk.i64_in _ (by omega)]; omega
theorem ret_eq {v : Value} {r : Int} (h : v = .int .i64 r) : Ending.returned v = .returned (.int .i64 r) := by rw [h]
set_option maxHeartbeats 8000000 in
set_option maxRecDepth 100000 in
theorem node_calls (w : World) (x : S27) (A : Option Addr) (c : Nat) (v5 : Value) (hA : Kd.C k99 w A x.f3.length x.f3) :
    Calls Try.prog 44 #[.agg #[.int .i64 x.f0.f0, .int .i64 x.f0.f1, .string x.f1, .string x.f2, .slice A x.f3.length c, v5]] w fun e w' => e = .returned (.int .i64 (nodeP x)) ∧ Below w.heap.size w w' := by
  have HA := Aside0.mk hA
  have HN := Aside0.mk (name_calls (w.alloc (.cells #[.int .i64 x.f0.f0, .int .i64 x.f0.f1, .string x.f1, .string x.f2, .slice A x.f3.length c, v5] 27)) x.f1)
  clear hA
  by_cases h1 : nameP x.f1 = true
  · have HP : Aside0 (nodeP x = if x.f2.size > 256 then 3 else if x.f3.length > 4096 then 3 else attrsFrom x.f3 x.f3.length 0) := ⟨by unfold nodeP; rw [if_pos h1]⟩
    rw [h1] at HN
    clear h1
    go_enter Try.func44, Try.ntmps44
    go_wp2_with (fail)
    refine HN.out.mono ?_
    rintro e w1 ⟨rfl, hb1⟩
    have HB : Aside0 (Below w.heap.size w w1) := ⟨(below_alloc (Below.refl _ _) _).trans (hb1.mono (by rw [Mem.alloc_size]; omega))⟩
    have hx1 : Aside0 (w1.heap[w.heap.size]? = some (.cells #[.int .i64 x.f0.f0, .int .i64 x.f0.f1, .string x.f1, .string x.f2, .slice A x.f3.length c, v5] 27 (0, 0))) := ⟨(hb1.block _ (by rw [Mem.alloc_size]; omega)).trans (Mem.alloc_new _ _)⟩
    have b3 := Mem.cell_of hx1.out 3
    have b4 := Mem.cell_of hx1.out 4
    clear hb1 HN
    by_cases h2 : 256 < x.f2.size
    · rw [if_pos h2] at HP
      have e2 : ((256 : Int) < (x.f2.size : Int)) = True := eq_true (by omega)
      have e3 : (256 < x.f2.size) = True := eq_true h2
      clear h2
      go_wp2
      go_ret
      exact ⟨ret_eq (by rw [HP.out]; rfl), HB.out⟩
    · rw [if_neg h2] at HP
      have e2 : ((256 : Int) < (x.f2.size : Int)) = False := eq_false (by omega)
      have e3 : (256 < x.f2.size) = False := eq_false h2
      clear h2
      by_cases h3 : 4096 < x.f3.length
      · rw [if_pos h3] at HP
        have e4 : ((4096 : Int) < (x.f3.length : Int)) = True := eq_true (by omega)
        have e5 : (4096 < x.f3.length) = True := eq_true h3
        clear h3
        go_wp2
        go_ret
        exact ⟨ret_eq (by rw [HP.out]; rfl), HB.out⟩
      · rw [if_neg h3] at HP
        have e4 : ((4096 : Int) < (x.f3.length : Int)) = False := eq_false (by omega)
        have e5 : (4096 < x.f3.length) = False := eq_false h3
        have hlm := Aside0.mk h3
        clear h3
        go_wp2
        go_loopw [22] (fun i wr => ∃ k : Nat, i = .int .i64 (k : Int) ∧ Aside0 (k ≤ x.f3.length) ∧ Aside0 (attrsFrom x.f3 (x.f3.length - k) k = nodeP x) ∧ Aside0 (Below w1.heap.size w1 wr)) (fun i _ => x.f3.length - (intOf i).toNat)
        case atStart => exact ⟨0, rfl, ⟨Nat.zero_le _⟩, ⟨by rw [HP.out]; rfl⟩, ⟨Below.refl _ _⟩⟩
        case round =>
          obtain ⟨k, rfl, HK, HAT, HBW⟩ := hrel
          have HX2 := Aside0.mk ((HBW.out.block _ (blk_lt hx1.out)).trans hx1.out)
          by_cases hlt : k < x.f3.length
          · have HW := Aside0.mk (next_kid hlt (Nat.le_of_not_lt hlm.out))
            obtain ⟨n, hn⟩ : ∃ n, x.f3.length - k = n + 1 := ⟨x.f3.length - k - 1, by omega⟩
            have HN : Aside0 (x.f3.length - (k + 1) = n) := ⟨by omega⟩
            rw [hn] at HAT
            clear hn
            have HC := Aside0.mk (Kd.C_below HA.out (HB.out.trans (HBW.out.mono HB.out.size)))
            obtain ⟨ad, hA', x0, x1⟩ := at_T99 HC.out (k : Int) (Int.natCast_nonneg _) (Int.ofNat_lt.2 hlt)
            rw [Int.toNat_natCast, rd99] at x0 x1
            obtain ⟨y, hy⟩ : ∃ y, x.f3.getD k z99 = y := ⟨_, rfl⟩
            have HY := Aside0.mk hy
            rw [hy] at x0 x1
            obtain ⟨p, hp⟩ : ∃ p, ad.add (k * 2) = p := ⟨_, rfl⟩
            have HPA := Aside0.mk hp
            rw [hp] at x0 x1
            subst hA'
            have HNM := Aside0.mk (name_calls (wr.alloc (.cells #[.string y.f0, .string y.f1] 99)) y.f0)
            have e6 : ((k : Int) < (x.f3.length : Int)) = True := eq_true (Int.ofNat_lt.2 hlt)
            have e7 : (k < x.f3.length) = True := eq_true hlt
            have HLT := Aside0.mk hlt
            have hkn : (k : Int).toNat = k := Int.toNat_natCast k
            have hkp : (0 : Int) ≤ (k : Int) := Int.natCast_nonneg k
            have b3' := Mem.cell_of HX2.out 3
            clear hy hlt b3
            by_cases h4 : nameP y.f0 = true
            · rw [h4] at HNM
              have HA1 : Aside0 (nodeP x = if y.f1.size > 256 then 3 else if 0 < k ∧ ¬ Op.bytesLess (x.f3.getD (k - 1) z99).f0.toList y.f0.toList = true then 2 else attrsFrom x.f3 n (k + 1)) := ⟨by rw [← HAT.out]; show (if nameP (x.f3.getD k z99).f0 = true then _ else _) = _; rw [HY.out, if_pos h4]⟩
              clear h4
              go_wp2_with (fail)
              refine HNM.out.mono ?_
              rintro e w3 ⟨rfl, hb3⟩
              have HB3 : Aside0 (Below wr.heap.size wr w3) := ⟨(below_alloc (Below.refl _ _) _).trans (hb3.mono (by rw [Mem.alloc_size]; omega))⟩
              have HYB : Aside0 (w3.heap[wr.heap.size]? = some (.cells #[.string y.f0, .string y.f1] 99 (0, 0))) := ⟨(hb3.block _ (by rw [Mem.alloc_size]; omega)).trans (Mem.alloc_new _ _)⟩
              have HX3 : Aside0 (w3.heap[w.heap.size]? = some (.cells #[.int .i64 x.f0.f0, .int .i64 x.f0.f1, .string x.f1, .string x.f2, .slice (some ad) x.f3.length c, v5] 27 (0, 0))) := ⟨(HB3.out.block _ (blk_lt HX2.out)).trans HX2.out⟩
              have y0 : w3.cell? ⟨wr.heap.size, 0, none⟩ = some (.string y.f0) := Mem.cell_of HYB.out 0
              have y1 : w3.cell? ⟨wr.heap.size, 1, none⟩ = some (.string y.f1) := Mem.cell_of HYB.out 1
              have b3 : w3.cell? ⟨w.heap.size, 4, none⟩ = some (.slice (some ad) x.f3.length c) := Mem.cell_of HX3.out 4
              clear hb3 HNM x0 x1 b3' b4
              by_cases h5 : 256 < y.f1.size
              · rw [if_pos h5] at HA1
                have e8 : ((256 : Int) < (y.f1.size : Int)) = True := eq_true (by omega)
                have e9 : (256 < y.f1.size) = True := eq_true h5
                clear h5
                go_wp2
                go_ret
                exact ⟨ret_eq (by rw [HA1.out]; rfl), HB.out.trans ((HBW.out.trans (HB3.out.mono HBW.out.size)).mono HB.out.size)⟩
              · rw [if_neg h5] at HA1
                have e8 : ((256 : Int) < (y.f1.size : Int)) = False := eq_false (by omega)
                have e9 : (256 < y.f1.size) = False := eq_false h5
                clear h5
                by_cases h6 : 0 < k
                · have H6a := Aside0.mk h6
                  have e10 : ((0 : Int) < (k : Int)) = True := eq_true (by omega)
                  have e11 : (0 < k) = True := eq_true h6
                  have hw_ : wrap64 ((k : Int) - 1) = ((k - 1 : Nat) : Int) := by have h_ := HLT.out; have h2_ := hlm.out; clear e4 e5 e6 e7 e8 e9 e10 e11; unfold wrap64; omega
                  have hw3 := wrap_pred H6a.out HLT.out hlm.out
                  have HC3 := Aside0.mk (Kd.C_below HC.out HB3.out)
                  obtain ⟨ad2, hA2, z0, z1⟩ := at_T99 HC3.out ((k - 1 : Nat) : Int) (Int.natCast_nonneg _) (Int.ofNat_lt.2 (by have h_ := HLT.out; omega))
                  obtain rfl : ad = ad2 := by injection hA2
                  rw [Int.toNat_natCast, rd99] at z0 z1
                  obtain ⟨q, hq⟩ : ∃ q, ad.add ((k - 1) * 2) = q := ⟨_, rfl⟩
                  obtain ⟨u, hu⟩ : ∃ u, x.f3.getD (k - 1) z99 = u := ⟨_, rfl⟩
                  have HU := Aside0.mk hu
                  rw [hq, hu] at z0
                  rw [hu] at HA1
                  have HQ := Aside0.mk hq
                  have hk1 : ((k - 1 : Nat) : Int).toNat = k - 1 := Int.toNat_natCast _
                  have hk2 : (0 : Int) ≤ ((k - 1 : Nat) : Int) := Int.natCast_nonneg _
                  have hk3 : ((k - 1 : Nat) : Int) < (x.f3.length : Int) := Int.ofNat_lt.2 (by have h_ := HLT.out; omega)
                  clear hA2 z1
                  have H6 := Aside0.mk h6
                  clear h6
                  by_cases h7 : Op.bytesLess u.f0.toList y.f0.toList = true
                  · rw [if_neg (fun h => h.2 h7)] at HA1
                    go_wp2_with (fail)
                    go_quiet ((fail))
                    go_wp2_with (fail)
                    go_roundw
                    case rel => exact ⟨k + 1, congrArg (Value.int .i64) HW.out, ⟨HLT.out⟩, ⟨by rw [HN.out]; exact HA1.out.symm⟩, ⟨HBW.out.trans ((HB3.out.trans (pw_below_drewN (Below.refl _ _) _)).mono HBW.out.size)⟩⟩
                    case measure => exact dec_kid HLT.out HW.out
                  · rw [if_pos ⟨H6.out, h7⟩] at HA1
                    have h8 : Op.bytesLess u.f0.toList y.f0.toList = false := Bool.eq_false_iff.2 h7
                    clear h7
                    go_wp2_with (fail)
                    go_quiet ((fail))
                    go_wp2
                    go_ret
                    exact ⟨ret_eq (by rw [HA1.out]; rfl), HB.out.trans ((HBW.out.trans ((HB3.out.trans (pw_below_drewN (Below.refl _ _) _)).mono HBW.out.size)).mono HB.out.size)⟩
                · have e10 : ((0 : Int) < (k : Int)) = False := eq_false (by omega)
                  have e11 : (0 < k) = False := eq_false h6
                  rw [if_neg (fun h => h6 h.1)] at HA1
                  clear h6
                  go_wp2_with (fail)
                  go_quiet ((fail))
                  go_wp2_with (fail)
                  go_roundw
                  case rel => exact ⟨k + 1, congrArg (Value.int .i64) HW.out, ⟨HLT.out⟩, ⟨by rw [HN.out]; exact HA1.out.symm⟩, ⟨HBW.out.trans ((HB3.out.trans (pw_below_drewN (Below.refl _ _) _)).mono HBW.out.size)⟩⟩
                  case measure => exact dec_kid HLT.out HW.out
            · have HA1 : Aside0 (nodeP x = 8) := ⟨by rw [← HAT.out]; show (if nameP (x.f3.getD k z99).f0 = true then _ else _) = _; rw [HY.out, if_neg h4]⟩
              rw [Bool.eq_false_iff.2 h4] at HNM
              clear h4
              go_wp2_with (fail)
              refine HNM.out.mono ?_
              rintro e w3 ⟨rfl, hb3⟩
              have HB3 : Aside0 (Below wr.heap.size wr w3) := ⟨(below_alloc (Below.refl _ _) _).trans (hb3.mono (by rw [Mem.alloc_size]; omega))⟩
              clear hb3 HNM
              go_wp2
              go_ret
              exact ⟨ret_eq (by rw [HA1.out]; rfl), HB.out.trans ((HBW.out.trans (HB3.out.mono HBW.out.size)).mono HB.out.size)⟩
          · have e6 : ((k : Int) < (x.f3.length : Int)) = False := eq_false (by omega)
            have e7 : (k < x.f3.length) = False := eq_false hlt
            have hk : x.f3.length - k = 0 := by omega
            rw [hk] at HAT
            clear hk hlt
            go_wp2
            go_ret
            exact ⟨ret_eq (by rw [← HAT.out]; rfl), HB.out.trans (HBW.out.mono HB.out.size)⟩
  · have HP : Aside0 (nodeP x = 8) := ⟨by unfold nodeP; rw [if_neg h1]⟩
    rw [Bool.eq_false_iff.2 h1] at HN
    clear h1
    go_enter Try.func44, Try.ntmps44
    go_wp2_with (fail)
    refine HN.out.mono ?_
    rintro e w1 ⟨rfl, hb1⟩
    have HB : Aside0 (Below w.heap.size w w1) := ⟨(below_alloc (Below.refl _ _) _).trans (hb1.mono (by rw [Mem.alloc_size]; omega))⟩
    clear hb1 HN
    go_wp2
    go_ret
    exact ⟨ret_eq (by rw [HP.out]; rfl), HB.out⟩
end Go.Proofs.Ytnkbgimihikhoaa.PVt
namespace Go.Proofs.Ytnkbgimihikhoaa.PVt
open Go.RowKit Go.Shelf Go.Proofs.YtnkbgimihikhoaaW.PrintWords Go.Proofs.YtnkbgimihikhoaaW.PrintLast Go.Proofs.YtnkbgimihikhoaaW.PrintMore
attribute [local go_sem] Oper.semAt_some
set_option linter.unusedVariables false
set_option linter.unusedSimpArgs false
def rightK (k : S23) : Bool := decide (1 ≤ k.f0 ∧ k.f0 ≤ 1099511627776 ∧ 0 ≤ k.f1 ∧ k.f1 < 64)
def nodeK (k : S23) : Bool := rightK k || ((k.f0 == 0 && (k.f1 == 0)) || (k.f0 == 0 && (k.f1 == 1)))
theorem right_f (k : S23) : ident_Right.f k.f0 k.f1 = some (rightK k) := by
 unfold ident_Right.f ident_replica.f rightK
 by_cases h1 : 1 ≤ k.f0
 ·rw [if_pos h1]
  by_cases h2 : k.f0 ≤ 1099511627776
  ·rw [if_pos h2]
   by_cases h3 : 0 ≤ k.f1
   ·simp [h1, h2, h3]
   ·simp [h1, h2, h3]
  ·rw [if_neg h2, decide_eq_false (fun h => h2 h.2.1)]
 ·rw [if_neg h1, decide_eq_false (fun h => h1 h.1)]
theorem nodeK_f (k : S23) : ident_Node.f k.f0 k.f1 = some (nodeK k) := by
 unfold ident_Node.f nodeK
 rw [right_f, Option.bind_some]
 cases rightK k with
 | true => rfl
 | false =>
  by_cases h : (k.f0 == 0 && (k.f1 == 0)) = true
  ·rw [if_neg (by simp), if_pos h, h]; rfl
  ·rw [if_neg (by simp), if_neg h, Bool.eq_false_iff.2 h]; rfl
theorem right_calls (w : World) (k : S23) : Calls Try.prog 43 #[.agg #[.int .i64 k.f0, .int .i64 k.f1]] w fun e w' => e = .returned (.bool (rightK k)) ∧ Below w.heap.size w w' := ident_Right.calls _ _ _ w (right_f k)
theorem nodeK_calls (w : World) (k : S23) : Calls Try.prog 42 #[.agg #[.int .i64 k.f0, .int .i64 k.f1]] w fun e w' => e = .returned (.bool (nodeK k)) ∧ Below w.heap.size w w' := ident_Node.calls _ _ _ w (nodeK_f k)
/-- May a node so deep not have this key? -/
def badK (p : Nat × S27) : Bool := (p.1 == 0 && !nodeK p.2.f0) || (decide (0 < p.1) && !rightK p.2.f0)
/-- The first fault among nodes, such keys having come. -/
def goC : List S23 → List (Nat × S27) → Int
 | _, [] => 0
 | ks, p :: l => if badK p = true then 2 else if (ks.any (sameK p.2.f0)) = true then 5 else if nodeP p.2 = 0 then goC (ks ++ [p.2.f0]) l else nodeP p.2
def checkP (x : S27) : Int := if 8192 < szT x then 3 else goC [] (flatD 0 x)
theorem goC_zero : ∀ (a b : List (Nat × S27)) (ks : List S23), goC ks a = 0 → goC ks (a ++ b) = goC (ks ++ keysP a) b
 | [], b, ks, _ => by simp [keysP]
 | p :: a, b, ks, h => by
  unfold goC at h
  by_cases h1 : badK p = true
  ·rw [if_pos h1] at h; cases h
  ·rw [if_neg h1] at h
   by_cases h2 : (ks.any (sameK p.2.f0)) = true
   ·rw [if_pos h2] at h; cases h
   ·rw [if_neg h2] at h
    by_cases h3 : nodeP p.2 = 0
    ·rw [if_pos h3] at h
     rw [List.cons_append, goC, if_neg h1, if_neg h2, if_pos h3, goC_zero a b _ h]
     simp [keysP]
    ·rw [if_neg h3] at h; exact absurd h h3
theorem goC_stop : ∀ (a b : List (Nat × S27)) (ks : List S23), goC ks a ≠ 0 → goC ks (a ++ b) = goC ks a
 | [], b, ks, h => absurd rfl h
 | p :: a, b, ks, h => by
  rw [List.cons_append, goC, goC]
  rw [goC] at h
  by_cases h1 : badK p = true
  ·rw [if_pos h1, if_pos h1]
  ·rw [if_neg h1] at h ⊢
   rw [if_neg h1]
   by_cases h2 : (ks.any (sameK p.2.f0)) = true
   ·rw [if_pos h2, if_pos h2]
   ·rw [if_neg h2] at h ⊢
    rw [if_neg h2]
    by_cases h3 : nodeP p.2 = 0
    ·rw [if_pos h3] at h ⊢
     rw [if_pos h3]
     exact goC_stop a b _ h
    ·rw [if_neg h3, if_neg h3]
theorem goC_one (a : List (Nat × S27)) (p : Nat × S27) (h : goC [] a = 0) : goC [] (a ++ [p]) = if badK p = true then 2 else if ((keysP a).any (sameK p.2.f0)) = true then 5 else nodeP p.2 := by
 rw [goC_zero a [p] [] h, List.nil_append, goC]
 split
 ·rfl
 ·split
  ·rfl
  ·split
   ·rename_i h3; rw [h3]; rfl
   ·rfl
theorem goC_prefix {a l : List (Nat × S27)} (h : a <+: l) (hn : goC [] a ≠ 0) : goC [] l = goC [] a := by
 obtain ⟨b, rfl⟩ := h
 exact goC_stop a b [] hn
/-- Such keys have come, once each. -/
def seenL (l : List (Nat × S27)) : List (S23 × Int) := (keysP l).map fun k => (k, 1)
theorem seenL_snoc (l : List (Nat × S27)) (p : Nat × S27) : seenL (l ++ [p]) = seenL l ++ [(p.2.f0, 1)] := by simp [seenL, keysP]
theorem findP_none : ∀ (ks : List S23) (k : S23) (i : Nat), (ks.any (sameK k)) = false → findP (ks.map fun k => (k, (1 : Int))) k i = none
 | [], k, i, _ => rfl
 | a :: t, k, i, h => by
  rw [List.any_cons, Bool.or_eq_false_iff] at h
  rw [List.map_cons, findP, if_neg (by rw [h.1]; simp), findP_none t k (i + 1) h.2]
theorem findP_some : ∀ (ks : List S23) (k : S23) (i : Nat), (ks.any (sameK k)) = true → ∃ j, findP (ks.map fun k => (k, (1 : Int))) k i = some (j, .int .i64 1)
 | [], k, i, h => by cases h
 | a :: t, k, i, h => by
  rw [List.map_cons, findP]
  by_cases h1 : sameK k a = true
  ·rw [if_pos h1]; exact ⟨i, rfl⟩
  ·rw [if_neg h1]
   rw [List.any_cons, Bool.eq_false_iff.2 h1, Bool.false_or] at h
   exact findP_some t k (i + 1) h
theorem valP_one {l : List (Nat × S27)} {k : S23} (h : ((keysP l).any (sameK k)) = true) : valP (seenL l) k = .int .i64 1 := by
 obtain ⟨j, hj⟩ := findP_some (keysP l) k 0 h
 unfold valP seenL
 rw [hj]
theorem valP_zero {l : List (Nat × S27)} {k : S23} (h : ((keysP l).any (sameK k)) = false) : valP (seenL l) k = .int .i64 0 := by
 unfold valP seenL
 rw [findP_none _ _ _ h]
theorem findP_append_none : ∀ (l : List (S23 × Int)) (k : S23) (v : Int) (i : Nat), findP l k i = none → findP (l ++ [(k, v)]) k i = some (i + l.length, .int .i64 v)
 | [], k, v, i, _ => by
  rw [List.nil_append, findP, if_pos (sameK_iff.2 rfl)]; rfl
 | (a, u) :: t, k, v, i, h => by
  rw [findP] at h
  rw [List.cons_append, findP]
  by_cases h1 : sameK k a = true
  ·rw [if_pos h1] at h; cases h
  ·rw [if_neg h1] at h ⊢
   rw [findP_append_none t k v (i + 1) h, List.length_cons]
   congr 2; omega
theorem valP_new {l : List (S23 × Int)} {k : S23} (h : findP l k 0 = none) (v : Int) : valP (l ++ [(k, v)]) k = .int .i64 v := by
 unfold valP
 rw [findP_append_none l k v 0 h]
theorem MapS.put {W : World} {b : Nat} {l : List (S23 × Int)} (m : List (S23 × Int)) (h : MapS W b l) : MapS (W.putObj b (.map (ents 0 m).toArray m.length)) b m := by
 unfold MapS at h ⊢
 exact World.putObj_heap_same (blk_lt' h)
theorem MapS_own {β : Type} {B b : Nat} (hb : b < B) (f : β → List (S23 × Int)) : OwnFrom B (fun s W => MapS W b (f s)) := fun s X Y row hs hg hr => (hg.block b (blk_lt' hs) (fun e => by have := (hr b e.symm).1; omega)).trans hs
theorem wrap_one : IntKind.i64.wrap 1 = 1 := by decide
theorem below_others {W W' : World} (h : Below W.heap.size W W') : KeepsOthers W W' := ⟨h.size, fun k o hk _ => (h.block k (blk_lt' hk)).trans hk⟩
theorem KeepsFrom.put {B b : Nat} {W : World} {o : Obj} (hb : b < B) : KeepsFrom B W (W.putObj b o) := ⟨by simp, fun i o' hB hi ho => (World.putObj_heap_other (by omega)).trans hi⟩
theorem KeptT.put {T : Nat → Prop} {b : Nat} {U W : World} (h : KeptT T U W) (o : Obj) (hb : T b) : KeptT T U (W.putObj b o) := ⟨Nat.le_trans h.size (by simp), fun i hi hn => (World.putObj_heap_other (by rintro rfl; exact hn hb)).trans (h.block i hi hn)⟩
theorem below_put {n b : Nat} {w W : World} (h : Below n w W) (hb : n ≤ b) (o : Obj) : Below n w (W.putObj b o) := ⟨h.os, h.tape, h.output, Nat.le_trans h.size (by simp), fun i hi => (World.putObj_heap_other (by omega)).trans (h.block i hi)⟩
theorem next_small {k : Nat} (h : k ≤ 8192) : wrap64 ((k : Int) + 1) = ((k + 1 : Nat) : Int) := by unfold wrap64; omega
theorem results_ci {P : Program} {fn : Func} {p : Tmp} {ty : TypeId} {q : IntKind} (h : fn.results = #[.cell p ty]) (tmps : Array Value) (w : World) (g : Nat) (v : Int) (hp : tmps.getD p undef = .pointer (some ⟨g, 0, none⟩)) (hc : w.cell? ⟨g, 0, none⟩ = some (.int .i64 v)) (hu : P.underlying ty = some (.int q)) : (results fn tmps).run P w = .ok (.int .i64 v) w := by
 have hp' : tmps[p]?.getD undef = .pointer (some ⟨g, 0, none⟩) := by simpa using hp
 simp [results, h, hp', asAddr, loadVar, isAgg, underlying, hu, hc, load, Sem.run]
set_option maxHeartbeats 16000000 in
set_option maxRecDepth 100000 in
theorem check_calls (w : World) (x : S27) (A4 : Option Addr) (c4 : Nat) (A5 : Option Addr) (c5 : Nat) (hd : szT x ≤ 1099511627776)
  (hT : TK w w.heap.size x [.int .i64 x.f0.f0, .int .i64 x.f0.f1, .string x.f1, .string x.f2, .slice A4 x.f3.length c4, .slice A5 x.f4.length c5]) :
  Calls Try.prog 12 #[.agg #[.int .i64 x.f0.f0, .int .i64 x.f0.f1, .string x.f1, .string x.f2, .slice A4 x.f3.length c4, .slice A5 x.f4.length c5]] w fun e w' => e = .returned (.int .i64 (checkP x)) ∧ Below w.heap.size w w' := by
 have HT := Aside0.mk hT
 have HSZ := Aside0.mk (flatD_length 0 x)
 clear hT
 refine (callsIn_wide (n := 3)).1 ?_
 refine callsIn_of_wp_marks Try.func12 rfl trivial ?_ rfl
 simp only [Try.ntmps12, List.size_toArray, List.length_cons, List.length_nil, Nat.reduceAdd, Nat.reduceSub, Array.replicate_succ, Array.replicate_zero, List.push_toArray, List.append_toArray, List.nil_append, List.cons_append]
 refine wpIn_wide.2 ?_
 go_wp2_with (fail)
 refine (nodes_calls _ _ _ _ _ _ _).mono ?_
 rintro e w1 ⟨rfl, rfl⟩
 go_wp2_with (fail)
 have hBU : Below w.heap.size w ((((w.alloc (.cells #[.int .i64 x.f0.f0, .int .i64 x.f0.f1, .string x.f1, .string x.f2, .slice A4 x.f3.length c4, .slice A5 x.f4.length c5] 27)).alloc (.cells #[.int .i64 0] 29)).alloc (.cells #[.int .i64 0] 3)).alloc (.cells #[.int .i64 x.f0.f0, .int .i64 x.f0.f1, .string x.f1, .string x.f2, .slice A4 x.f3.length c4, .slice A5 x.f4.length c5] 27)) := below_alloc (below_alloc (below_alloc (below_alloc (Below.refl _ _) _) _) _) _
 have hB1 : ((((w.alloc (.cells #[.int .i64 x.f0.f0, .int .i64 x.f0.f1, .string x.f1, .string x.f2, .slice A4 x.f3.length c4, .slice A5 x.f4.length c5] 27)).alloc (.cells #[.int .i64 0] 29)).alloc (.cells #[.int .i64 0] 3)).alloc (.cells #[.int .i64 x.f0.f0, .int .i64 x.f0.f1, .string x.f1, .string x.f2, .slice A4 x.f3.length c4, .slice A5 x.f4.length c5] 27)).heap[w.heap.size]? = some (.cells #[.int .i64 x.f0.f0, .int .i64 x.f0.f1, .string x.f1, .string x.f2, .slice A4 x.f3.length c4, .slice A5 x.f4.length c5] 27 (0, 0)) := Mem.alloc_old (Mem.alloc_old (Mem.alloc_old (Mem.alloc_new _ _) _) _) _
 have hB2 : ((((w.alloc (.cells #[.int .i64 x.f0.f0, .int .i64 x.f0.f1, .string x.f1, .string x.f2, .slice A4 x.f3.length c4, .slice A5 x.f4.length c5] 27)).alloc (.cells #[.int .i64 0] 29)).alloc (.cells #[.int .i64 0] 3)).alloc (.cells #[.int .i64 x.f0.f0, .int .i64 x.f0.f1, .string x.f1, .string x.f2, .slice A4 x.f3.length c4, .slice A5 x.f4.length c5] 27)).heap[w.heap.size + 1]? = some (.cells #[.int .i64 0] 29 (0, 0)) := Mem.alloc_old (Mem.alloc_old (Mem.alloc_new_at _ _ _ (by rw [Mem.alloc_size])) _) _
 have hB3 : ((((w.alloc (.cells #[.int .i64 x.f0.f0, .int .i64 x.f0.f1, .string x.f1, .string x.f2, .slice A4 x.f3.length c4, .slice A5 x.f4.length c5] 27)).alloc (.cells #[.int .i64 0] 29)).alloc (.cells #[.int .i64 0] 3)).alloc (.cells #[.int .i64 x.f0.f0, .int .i64 x.f0.f1, .string x.f1, .string x.f2, .slice A4 x.f3.length c4, .slice A5 x.f4.length c5] 27)).heap[w.heap.size + 1 + 1]? = some (.cells #[.int .i64 0] 3 (0, 0)) := Mem.alloc_old (Mem.alloc_new_at _ _ _ (by rw [Mem.alloc_size, Mem.alloc_size])) _
 have hBX : ((((w.alloc (.cells #[.int .i64 x.f0.f0, .int .i64 x.f0.f1, .string x.f1, .string x.f2, .slice A4 x.f3.length c4, .slice A5 x.f4.length c5] 27)).alloc (.cells #[.int .i64 0] 29)).alloc (.cells #[.int .i64 0] 3)).alloc (.cells #[.int .i64 x.f0.f0, .int .i64 x.f0.f1, .string x.f1, .string x.f2, .slice A4 x.f3.length c4, .slice A5 x.f4.length c5] 27)).heap[w.heap.size + 1 + 1 + 1]? = some (.cells #[.int .i64 x.f0.f0, .int .i64 x.f0.f1, .string x.f1, .string x.f2, .slice A4 x.f3.length c4, .slice A5 x.f4.length c5] 27 (0, 0)) := Mem.alloc_new_at _ _ _ (by rw [Mem.alloc_size, Mem.alloc_size, Mem.alloc_size])
 have hUS : ((((w.alloc (.cells #[.int .i64 x.f0.f0, .int .i64 x.f0.f1, .string x.f1, .string x.f2, .slice A4 x.f3.length c4, .slice A5 x.f4.length c5] 27)).alloc (.cells #[.int .i64 0] 29)).alloc (.cells #[.int .i64 0] 3)).alloc (.cells #[.int .i64 x.f0.f0, .int .i64 x.f0.f1, .string x.f1, .string x.f2, .slice A4 x.f3.length c4, .slice A5 x.f4.length c5] 27)).heap.size = w.heap.size + 4 := by rw [Mem.alloc_size, Mem.alloc_size, Mem.alloc_size, Mem.alloc_size]
 generalize ((((w.alloc (.cells #[.int .i64 x.f0.f0, .int .i64 x.f0.f1, .string x.f1, .string x.f2, .slice A4 x.f3.length c4, .slice A5 x.f4.length c5] 27)).alloc (.cells #[.int .i64 0] 29)).alloc (.cells #[.int .i64 0] 3)).alloc (.cells #[.int .i64 x.f0.f0, .int .i64 x.f0.f1, .string x.f1, .string x.f2, .slice A4 x.f3.length c4, .slice A5 x.f4.length c5] 27)) = U at *
 refine (wpIn_wide (n := 3)).1 ?_
 refine wpIn_rangeFunc_ownH (F := Fence.wide) (n := 3) rfl (by decide) (gf := 65) (lb := #[.pointer (some ⟨w.heap.size + 1 + 1 + 1, 0, none⟩)]) rfl trivial (enters_of Try.func65 (by kernel_rfl) rfl)
  (nodes_stops (T := fun _ => False) hd HT.out (fun i hi => hBU.block i hi) hBU.size (fun _ h => h.elim) hBX) Kw.trans (fun W l o o' hl h1 h2 _ => Kw.put W l o o' (Nat.le_trans hBU.size hl) h1 h2) (Below.refl _ _) (fun _ => rfl)
  (fun pre W => (W.heap[w.heap.size + 1 + 1]? = some (.cells #[.int .i64 (pre.length : Int)] 3 (0, 0)) ∧ pre.length ≤ 8192) ∧ LK (fun i => i = w.heap.size + 1 + 1) w.heap.size w U W)
  (fun c pre W => ((c = .ret ∧ 8192 < pre.length) ∧ W.heap[w.heap.size + 1]? = some (.cells #[.int .i64 3] 29 (0, 0))) ∧ LK (fun i => i = w.heap.size + 1 + 1 ∨ i = w.heap.size + 1) w.heap.size w U W)
  (OwnFrom.and (OwnFrom.and (Own.from (cells_own _ 3 (fun (pre : List (Nd w w.heap.size)) => #[.int .i64 (pre.length : Int)])) _) (ownFrom_pure _ _)) (LK_own (Nat.le_refl _) hBU.size))
  (fun c => OwnFrom.and (OwnFrom.and (ownFrom_pure _ _) (Own.from (cells_own _ 29 (fun _ => #[.int .i64 3])) _)) (LK_own (Nat.le_refl _) hBU.size))
  ⟨⟨hB3, Nat.zero_le _⟩, KeptT.refl _ _, hBU⟩
  (fun y a' _ => a' = { tmps := #[.agg #[.int .i64 x.f0.f0, .int .i64 x.f0.f1, .string x.f1, .string x.f2, .slice A4 x.f3.length c4, .slice A5 x.f4.length c5], .pointer (some ⟨w.heap.size, 0, none⟩), .pointer (some ⟨w.heap.size + 1, 0, none⟩), .pointer (some ⟨w.heap.size + 1 + 1, 0, none⟩), undef, undef, undef, undef, .agg #[.int .i64 x.f0.f0, .int .i64 x.f0.f1, .string x.f1, .string x.f2, .slice A4 x.f3.length c4, .slice A5 x.f4.length c5], .func (.func 65) #[] #[.pointer (some ⟨w.heap.size + 1 + 1 + 1, 0, none⟩)], .int .i64 (y.d : Int), .agg y.cs.toArray, undef, undef, undef, undef, undef, undef, undef, undef, undef, undef, undef, undef, undef, undef, undef, undef, undef, undef, undef, undef, undef, undef, undef, undef, undef, undef, undef, undef, undef, undef, undef, undef, undef, undef, undef, undef, undef, undef, undef, undef, undef, undef, undef, undef], defers := [] })
  (fun y a' _ X Y row hs hg hr => hs)
  ?assign ?body ?done ?stop
 case assign =>
  rintro l pre y W K hI hK
  dsimp only [encN]
  gi_wp2
  exact hK _ _ ((KeepsOthers.refl _).from _) (Kw.refl _ _ _) hI rfl
 case body =>
  rintro l pre y a' W hl ⟨r, hr⟩ ⟨⟨h3, hle⟩, hK⟩ rfl hlt
  have c3 := Mem.cell_of h3 0
  have f3 := Mem.free_of h3 0
  have HB2 := Aside0.mk (hK.1.cells hB2 (by show ¬ (w.heap.size + 1 = w.heap.size + 1 + 1); omega))
  have c2 := Mem.cell_of HB2.out 0
  have f2 := Mem.free_of HB2.out 0
  have HK := Aside0.mk hK
  have H3 := Aside0.mk h3
  obtain ⟨k, hk⟩ : ∃ k, pre.length = k := ⟨_, rfl⟩
  rw [hk] at c3 hle H3
  have hw_ := next_small hle
  have HLE := Aside0.mk hle
  have HKN := Aside0.mk hk
  clear hK h3 hr hle hk hlt
  have HKW : Aside0 (Kw w.heap.size (fun _ => False) W (W.setCell ⟨w.heap.size + 1 + 1, 0, none⟩ (.int .i64 ((k + 1 : Nat) : Int)))) := ⟨Kw.box H3.out (by decide) _ (by omega)⟩
  by_cases h1 : 8192 < k + 1
  ·have e1 : ((8192 : Int) < (k : Int) + 1) = True := eq_true (by omega)
   have e2 : ((8192 : Int) < ((k + 1 : Nat) : Int)) = True := eq_true (by omega)
   have e3 : (8192 < k + 1) = True := eq_true h1
   have H1 := Aside0.mk h1
   clear h1
   gi_wp2_with (fail)
   refine ⟨((KeepsOthers.setCell _ _ _).trans (KeepsOthers.setCell _ _ _)).from _, ⟨⟨rfl, by rw [List.length_append, HKN.out]; exact H1.out⟩, ?_⟩, ?_⟩
   ·exact Mem.set_heap ((Mem.set_other _ _ _ _ (by show w.heap.size + 1 ≠ w.heap.size + 1 + 1; omega)).trans HB2.out) 0 _
   ·exact ⟨((KeptT.set ⟨HK.out.1.size, fun i hi hn => HK.out.1.block i hi (fun h => hn (.inl h))⟩ _ (.inl rfl)).set _ (.inr rfl)), (HK.out.2.setCell (p := ⟨w.heap.size + 1 + 1, 0, none⟩) (by show w.heap.size ≤ w.heap.size + 1 + 1; omega) _).setCell (p := ⟨w.heap.size + 1, 0, none⟩) (by show w.heap.size ≤ w.heap.size + 1; omega) _⟩
  ·have e1 : ((8192 : Int) < (k : Int) + 1) = False := eq_false (by omega)
   have e2 : ((8192 : Int) < ((k + 1 : Nat) : Int)) = False := eq_false (by omega)
   have e3 : (8192 < k + 1) = False := eq_false h1
   have H1 := Aside0.mk h1
   clear h1
   gi_wp2_with (fail)
   refine ⟨(KeepsOthers.setCell _ _ _).from _, HKW.out, ⟨?_, by rw [List.length_append, HKN.out]; have := H1.out; show k + 1 ≤ 8192; omega⟩, HK.out.set _ rfl (by omega)⟩
   rw [Mem.set_heap H3.out 0 _, List.length_append, HKN.out]; rfl
 case done =>
  rintro D ys W hD hys ⟨⟨h3, hle⟩, hK⟩ hKD
  have HL : Aside0 (szT x ≤ 8192) := ⟨by rw [← HSZ.out, ← hys, List.length_map]; exact hle⟩
  have HB2 := Aside0.mk (hK.1.cells hB2 (by show ¬ (w.heap.size + 1 = w.heap.size + 1 + 1); omega))
  have HB1 := Aside0.mk (hK.1.cells hB1 (by show ¬ (w.heap.size = w.heap.size + 1 + 1); omega))
  have HBW := Aside0.mk hK.2
  have HWS : Aside0 (w.heap.size + 4 ≤ W.heap.size) := ⟨by have := hK.1.size; omega⟩
  have HKD := Aside0.mk hKD
  have HDL : Aside0 (w.heap.size + 4 ≤ D ∧ D < W.heap.size) := ⟨by omega, blk_lt' hKD⟩
  have a0 : ((W.alloc (.map #[] 0)).alloc (.cells #[.map (some W.heap.size)] 70)).cell? ⟨w.heap.size, 0, none⟩ = some (.int .i64 x.f0.f0) := Mem.cell_alloc (Mem.cell_alloc (Mem.cell_of HB1.out 0) _) _
  have a1 : ((W.alloc (.map #[] 0)).alloc (.cells #[.map (some W.heap.size)] 70)).cell? ⟨w.heap.size, 1, none⟩ = some (.int .i64 x.f0.f1) := Mem.cell_alloc (Mem.cell_alloc (Mem.cell_of HB1.out 1) _) _
  have a2 : ((W.alloc (.map #[] 0)).alloc (.cells #[.map (some W.heap.size)] 70)).cell? ⟨w.heap.size, 2, none⟩ = some (.string x.f1) := Mem.cell_alloc (Mem.cell_alloc (Mem.cell_of HB1.out 2) _) _
  have a3 : ((W.alloc (.map #[] 0)).alloc (.cells #[.map (some W.heap.size)] 70)).cell? ⟨w.heap.size, 3, none⟩ = some (.string x.f2) := Mem.cell_alloc (Mem.cell_alloc (Mem.cell_of HB1.out 3) _) _
  have a4 : ((W.alloc (.map #[] 0)).alloc (.cells #[.map (some W.heap.size)] 70)).cell? ⟨w.heap.size, 4, none⟩ = some (.slice A4 x.f3.length c4) := Mem.cell_alloc (Mem.cell_alloc (Mem.cell_of HB1.out 4) _) _
  have a5 : ((W.alloc (.map #[] 0)).alloc (.cells #[.map (some W.heap.size)] 70)).cell? ⟨w.heap.size, 5, none⟩ = some (.slice A5 x.f4.length c5) := Mem.cell_alloc (Mem.cell_alloc (Mem.cell_of HB1.out 5) _) _
  have hmm := @run_makeMap Try.prog
  clear hys h3 hle hK hKD
  go_wp2_with (fail)
  refine (nodes_calls _ _ _ _ _ _ _).mono ?_
  rintro e w1 ⟨rfl, rfl⟩
  clear a0 a1 a2 a3 a4 a5 hmm
  go_wp2_with (fail)
  have hVB : Below W.heap.size W (((W.alloc (.map #[] 0)).alloc (.cells #[.map (some W.heap.size)] 70)).alloc (.cells #[.int .i64 x.f0.f0, .int .i64 x.f0.f1, .string x.f1, .string x.f2, .slice A4 x.f3.length c4, .slice A5 x.f4.length c5] 27)) := below_alloc (below_alloc (below_alloc (Below.refl _ _) _) _) _
  have hVM : (((W.alloc (.map #[] 0)).alloc (.cells #[.map (some W.heap.size)] 70)).alloc (.cells #[.int .i64 x.f0.f0, .int .i64 x.f0.f1, .string x.f1, .string x.f2, .slice A4 x.f3.length c4, .slice A5 x.f4.length c5] 27)).heap[W.heap.size]? = some (.map #[] 0) := Mem.alloc_old (Mem.alloc_old (Mem.alloc_new _ _) _) _
  have hV4 : (((W.alloc (.map #[] 0)).alloc (.cells #[.map (some W.heap.size)] 70)).alloc (.cells #[.int .i64 x.f0.f0, .int .i64 x.f0.f1, .string x.f1, .string x.f2, .slice A4 x.f3.length c4, .slice A5 x.f4.length c5] 27)).heap[W.heap.size + 1]? = some (.cells #[.map (some W.heap.size)] 70 (0, 0)) := Mem.alloc_old (Mem.alloc_new_at _ _ _ (by rw [Mem.alloc_size])) _
  have hVX : (((W.alloc (.map #[] 0)).alloc (.cells #[.map (some W.heap.size)] 70)).alloc (.cells #[.int .i64 x.f0.f0, .int .i64 x.f0.f1, .string x.f1, .string x.f2, .slice A4 x.f3.length c4, .slice A5 x.f4.length c5] 27)).heap[W.heap.size + 1 + 1]? = some (.cells #[.int .i64 x.f0.f0, .int .i64 x.f0.f1, .string x.f1, .string x.f2, .slice A4 x.f3.length c4, .slice A5 x.f4.length c5] 27 (0, 0)) := Mem.alloc_new_at _ _ _ (by rw [Mem.alloc_size, Mem.alloc_size])
  have hVS : (((W.alloc (.map #[] 0)).alloc (.cells #[.map (some W.heap.size)] 70)).alloc (.cells #[.int .i64 x.f0.f0, .int .i64 x.f0.f1, .string x.f1, .string x.f2, .slice A4 x.f3.length c4, .slice A5 x.f4.length c5] 27)).heap.size = W.heap.size + 3 := by rw [Mem.alloc_size, Mem.alloc_size, Mem.alloc_size]
  generalize (((W.alloc (.map #[] 0)).alloc (.cells #[.map (some W.heap.size)] 70)).alloc (.cells #[.int .i64 x.f0.f0, .int .i64 x.f0.f1, .string x.f1, .string x.f2, .slice A4 x.f3.length c4, .slice A5 x.f4.length c5] 27)) = V at *
  have hV2 := (hVB.block _ (blk_lt' HB2.out)).trans HB2.out
  have HVD := Aside0.mk ((hVB.block _ (blk_lt' HKD.out)).trans HKD.out)
  have hBV := HBW.out.trans (hVB.mono HBW.out.size)
  generalize hbm : W.heap.size = bm at *
  clear hbm HB2 HB1 HBW HKD hVB
  have hws := HWS.out
  refine (wpIn_wide (n := 3)).1 ?_
  refine wpIn_rangeFunc_ownH (F := Fence.wide) (n := 3) rfl (by decide) (gf := 65) (lb := #[.pointer (some ⟨bm + 1 + 1, 0, none⟩)]) rfl trivial (enters_of Try.func65 (by kernel_rfl) rfl)
   (nodes_stops (T := fun _ => False) hd HT.out (fun i hi => hBV.block i hi) hBV.size (fun _ h => h.elim) hVX) Kw.trans (fun W l o o' hl h1 h2 _ => Kw.put W l o o' (Nat.le_trans hBV.size hl) h1 h2) (Below.refl _ _) (fun _ => rfl)
   (fun pre W => (MapS W bm (seenL (pre.map pl)) ∧ goC [] (pre.map pl) = 0) ∧ LK (fun i => i = bm) w.heap.size w V W)
   (fun c pre W => ((c = .ret ∧ goC [] (pre.map pl) ≠ 0) ∧ W.heap[w.heap.size + 1]? = some (.cells #[.int .i64 (goC [] (pre.map pl))] 29 (0, 0))) ∧ LK (fun i => i = bm ∨ i = w.heap.size + 1) w.heap.size w V W)
   (OwnFrom.and (OwnFrom.and (MapS_own (by omega) (fun (pre : List (Nd w w.heap.size)) => seenL (pre.map pl))) (ownFrom_pure _ _)) (LK_own (Nat.le_refl _) hBV.size))
   (fun c => OwnFrom.and (OwnFrom.and (ownFrom_pure _ _) (Own.from (cells_own _ 29 (fun (pre : List (Nd w w.heap.size)) => #[.int .i64 (goC [] (pre.map pl))])) _)) (LK_own (Nat.le_refl _) hBV.size))
   ⟨⟨hVM, rfl⟩, KeptT.refl _ _, hBV⟩
   (fun y a' Wr => ∃ Bx, V.heap.size ≤ Bx ∧ Wr.heap[Bx]? = some (.cells y.cs.toArray 27 (0, 0)) ∧ a' = { tmps := #[.agg #[.int .i64 x.f0.f0, .int .i64 x.f0.f1, .string x.f1, .string x.f2, .slice A4 x.f3.length c4, .slice A5 x.f4.length c5], .pointer (some ⟨w.heap.size, 0, none⟩), .pointer (some ⟨w.heap.size + 1, 0, none⟩), .pointer (some ⟨w.heap.size + 1 + 1, 0, none⟩), .pointer (some ⟨bm + 1, 0, none⟩), .int .i64 (y.d : Int), .pointer (some ⟨Bx, 0, none⟩), undef, .agg #[.int .i64 x.f0.f0, .int .i64 x.f0.f1, .string x.f1, .string x.f2, .slice A4 x.f3.length c4, .slice A5 x.f4.length c5], .func (.func 65) #[] #[.pointer (some ⟨w.heap.size + 1 + 1 + 1, 0, none⟩)], undef, undef, undef, undef, undef, undef, .map (some bm), .agg #[.int .i64 x.f0.f0, .int .i64 x.f0.f1, .string x.f1, .string x.f2, .slice A4 x.f3.length c4, .slice A5 x.f4.length c5], .func (.func 65) #[] #[.pointer (some ⟨bm + 1 + 1, 0, none⟩)], .int .i64 (y.d : Int), .agg y.cs.toArray, undef, undef, undef, undef, undef, undef, undef, undef, undef, undef, undef, undef, undef, undef, undef, undef, undef, undef, undef, undef, undef, undef, undef, undef, undef, undef, undef, undef, undef, undef, undef, undef, undef, undef, undef], defers := [] })
   (fun y a' _ X Y row hs hg hr => by obtain ⟨Bx, h1, h2, h3⟩ := hs; exact ⟨Bx, h1, cells_own Bx 27 (fun (_ : Unit) => y.cs.toArray) () X Y row h2 hg (fun r e => (hr r e).2), h3⟩)
   ?assign2 ?body2 ?done2 ?stop2
  case assign2 =>
   rintro l pre ⟨yd, z, ycs, yok, yhd⟩ W K hI hK
   obtain ⟨B4, e4, B5, e5, rfl, _⟩ := yok.open
   dsimp only [encN]
   gi_wp2
   have hbl : Below W.heap.size W (W.alloc (.cells #[.int .i64 z.f0.f0, .int .i64 z.f0.f1, .string z.f1, .string z.f2, .slice B4 z.f3.length e4, .slice B5 z.f4.length e5] 27)) := below_alloc (Below.refl _ _) _
   obtain ⟨⟨hM, hg⟩, hL⟩ := hI
   exact hK _ _ ((KeepsOthers.alloc _ _).from _) (Kw.below hbl hL.2.size) ⟨⟨Mem.alloc_old hM _, hg⟩, hL.on hbl hBV.size⟩ ⟨W.heap.size, hL.1.size, Mem.alloc_new _ _, rfl⟩
  case body2 =>
   rintro l pre ⟨yd, z, ycs, yok, yhd⟩ a' Wr hl ⟨r, hr⟩ ⟨⟨hM, hg⟩, hK⟩ ⟨Bx, hBx, bX, rfl⟩ hlt
   obtain ⟨B4, e4, B5, e5, rfl, l4, g4, l5, g5⟩ := yok.open
   have HF := Aside0.mk g4
   have HMAP : Aside0 ((pre ++ [(⟨yd, z, _, yok, yhd⟩ : Nd w w.heap.size)]).map pl = pre.map pl ++ [(yd, z)]) := ⟨by rw [List.map_append]; rfl⟩
   have GO := Aside0.mk (goC_one (pre.map pl) (yd, z) hg)
   have HM := Aside0.mk hM
   have HK := Aside0.mk hK
   have HX := Aside0.mk bX
   have HB2 := Aside0.mk (hK.1.cells hV2 (by show ¬ (w.heap.size + 1 = bm); omega))
   have HB4 := Aside0.mk (hK.1.cells hV4 (by show ¬ (bm + 1 = bm); omega))
   have HBX := Aside0.mk hBx
   obtain ⟨ks, hks⟩ : ∃ ks, keysP (pre.map pl) = ks := ⟨_, rfl⟩
   have HKS := Aside0.mk hks
   have x0 := Mem.cell_of bX 0
   have x1 := Mem.cell_of bX 1
   clear hr hM hK bX l4 g4 l5 g5 hg hlt hks
   by_cases h0 : yd = 0
   ·have e1 : ((yd : Int) = 0) = True := eq_true (by omega)
    have e2 : ((yd : Int) == 0) = true := beq_iff_eq.2 (by omega)
    have e3 : ((0 : Int) < (yd : Int)) = False := eq_false (by omega)
    have e3' : (0 < yd) = False := eq_false (by omega)
    have e3'' : (yd = 0) = True := eq_true h0
    have HC := Aside0.mk (nodeK_calls Wr z.f0)
    have HBAD : Aside0 (badK (yd, z) = !nodeK z.f0) := ⟨by unfold badK; rw [show ((yd, z).1 == 0) = true from beq_iff_eq.2 h0, show decide (0 < (yd, z).1) = false from decide_eq_false (by show ¬ 0 < yd; omega)]; simp⟩
    clear h0
    gi_wp2_with (fail)
    refine ⟨trivial, ?_⟩
    refine (CallsIn.inRound l (callsIn_wide.2 HC.out)).mono ?_
    rintro e w3 ⟨rfl, hb3⟩
    have HB3 := Aside0.mk hb3
    have HM3 := Aside0.mk (show MapS w3 bm _ from (hb3.block _ (blk_lt' HM.out)).trans HM.out)
    have HK3 := Aside0.mk (HK.out.on hb3 hBV.size)
    have HX3 := Aside0.mk ((hb3.block _ (blk_lt' HX.out)).trans HX.out)
    have HB23 := Aside0.mk ((hb3.block _ (blk_lt' HB2.out)).trans HB2.out)
    have HB43 := Aside0.mk ((hb3.block _ (blk_lt' HB4.out)).trans HB4.out)
    clear hb3 HC x0 x1
    have c2 : w3.cell? ⟨w.heap.size + 1, 0, none⟩ = some (.int .i64 0) := Mem.cell_of HB23.out 0
    have f2 := Mem.free_of HB23.out 0
    have c4 : w3.cell? ⟨bm + 1, 0, none⟩ = some (.map (some bm)) := Mem.cell_of HB43.out 0
    have x0 : w3.cell? ⟨Bx, 0, none⟩ = some (.int .i64 z.f0.f0) := Mem.cell_of HX3.out 0
    have x1 : w3.cell? ⟨Bx, 1, none⟩ = some (.int .i64 z.f0.f1) := Mem.cell_of HX3.out 1
    cases hk_ : nodeK z.f0 with
    | false =>
     rw [hk_] at HBAD
     have HE : Aside0 (goC [] ((pre ++ [(⟨yd, z, _, yok, yhd⟩ : Nd w w.heap.size)]).map pl) = 2) := ⟨by rw [HMAP.out, GO.out, if_pos (by rw [HBAD.out]; rfl)]⟩
     gi_wp2_with (fail)
     refine ⟨((below_others HB3.out).trans (KeepsOthers.setCell _ _ _)).from _, ⟨⟨rfl, by rw [HE.out]; decide⟩, ?_⟩, ?_⟩
     ·rw [HE.out]; exact Mem.set_heap HB23.out 0 _
     ·exact LK.set ⟨⟨HK3.out.1.size, fun i hi hn => HK3.out.1.block i hi (fun h => hn (.inl h))⟩, HK3.out.2⟩ _ (.inr rfl) (Nat.le_succ _)
    | true =>
     rw [hk_] at HBAD
     gi_wp2_with (fail)
     refine ⟨trivial, ?_⟩
     cases hs_ : ks.any (sameK z.f0) with
     | true =>
      have HE : Aside0 (goC [] ((pre ++ [(⟨yd, z, _, yok, yhd⟩ : Nd w w.heap.size)]).map pl) = 5) := ⟨by rw [HMAP.out, GO.out, if_neg (by rw [HBAD.out]; simp), HKS.out, if_pos hs_]⟩
      have r1 : Sem.run Try.prog (Instr.lookup 70 (.map (some bm)) (.agg #[.int .i64 z.f0.f0, .int .i64 z.f0.f1]) false) w3 = .ok (.int .i64 1) w3 := by
       have h_ := look_run HM3.out z.f0
       rw [valP_one (by rw [HKS.out]; exact hs_)] at h_
       exact h_
      gi_wp2_with (fail)
      refine ⟨((below_others HB3.out).trans (KeepsOthers.setCell _ _ _)).from _, ⟨⟨rfl, by rw [HE.out]; decide⟩, ?_⟩, ?_⟩
      ·rw [HE.out]; exact Mem.set_heap HB23.out 0 _
      ·exact LK.set ⟨⟨HK3.out.1.size, fun i hi hn => HK3.out.1.block i hi (fun h => hn (.inl h))⟩, HK3.out.2⟩ _ (.inr rfl) (Nat.le_succ _)
     | false =>
      have HE : Aside0 (goC [] ((pre ++ [(⟨yd, z, _, yok, yhd⟩ : Nd w w.heap.size)]).map pl) = nodeP z) := ⟨by rw [HMAP.out, GO.out, if_neg (by rw [HBAD.out]; simp), HKS.out, if_neg (by rw [hs_]; simp)]⟩
      have hfn : findP (seenL (pre.map pl)) z.f0 0 = none := findP_none _ _ _ (by rw [HKS.out]; exact hs_)
      have r1 : Sem.run Try.prog (Instr.lookup 70 (.map (some bm)) (.agg #[.int .i64 z.f0.f0, .int .i64 z.f0.f1]) false) w3 = .ok (.int .i64 0) w3 := by
       have h_ := look_run HM3.out z.f0
       rw [valP_zero (by rw [HKS.out]; exact hs_)] at h_
       exact h_
      have hMd : MapS w3.drew bm (seenL (pre.map pl)) := HM3.out
      have r1d : Sem.run Try.prog (Instr.lookup 70 (.map (some bm)) (.agg #[.int .i64 z.f0.f0, .int .i64 z.f0.f1]) false) w3.drew = .ok (.int .i64 0) w3.drew := by
       have h_ := look_run hMd z.f0
       rw [valP_zero (by rw [HKS.out]; exact hs_)] at h_
       exact h_
      have r2 : Sem.run Try.prog (Instr.mapEntry 70 (.map (some bm)) (.agg #[.int .i64 z.f0.f0, .int .i64 z.f0.f1])) w3.drew = _ := entry_run hMd z.f0 hfn
      have hM1 := MapS.put (seenL (pre.map pl) ++ [(z.f0, 0)]) hMd
      have hM2 := MapS.put (seenL (pre.map pl) ++ [(z.f0, 1)]) hM1
      have r3 : Sem.run Try.prog (Instr.lookup 70 (.map (some bm)) (.agg #[.int .i64 z.f0.f0, .int .i64 z.f0.f1]) false) (w3.drew.putObj bm (.map (ents 0 (seenL (pre.map pl) ++ [(z.f0, 0)])).toArray (seenL (pre.map pl) ++ [(z.f0, 0)]).length)) = .ok (.int .i64 0) (w3.drew.putObj bm (.map (ents 0 (seenL (pre.map pl) ++ [(z.f0, 0)])).toArray (seenL (pre.map pl) ++ [(z.f0, 0)]).length)) := by
       have h_ := look_run hM1 z.f0
       rw [valP_new hfn 0] at h_
       exact h_
      have r4 := store_run z.f0 1 hM1
      have hw1 : IntKind.i64.wrap 1 = 1 := wrap_one
      have HKP1 : Kw w.heap.size (fun _ => False) w3.drew (w3.drew.putObj bm (.map (ents 0 (seenL (pre.map pl) ++ [(z.f0, 0)])).toArray (seenL (pre.map pl) ++ [(z.f0, 0)]).length)) := Kw.put _ _ _ _ (by omega) hMd rfl
      have HKP2 := HKP1.trans (Kw.put _ _ _ (.map (ents 0 (seenL (pre.map pl) ++ [(z.f0, 1)])).toArray (seenL (pre.map pl) ++ [(z.f0, 1)]).length) (by omega) hM1 rfl)
      have HP2 := Aside0.mk ((Kw.below ((HB3.out.trans ((below_drew (Below.refl _ _)).mono HB3.out.size))) HK.out.2.size).trans HKP2)
      have HF2 : Aside0 (KeepsFrom V.heap.size Wr _) := ⟨((((below_others HB3.out).trans (KeepsOthers.drew _)).from _).trans (KeepsFrom.put (b := bm) (o := .map (ents 0 (seenL (pre.map pl) ++ [(z.f0, 0)])).toArray (seenL (pre.map pl) ++ [(z.f0, 0)]).length) (by omega))).trans (KeepsFrom.put (b := bm) (o := .map (ents 0 (seenL (pre.map pl) ++ [(z.f0, 1)])).toArray (seenL (pre.map pl) ++ [(z.f0, 1)]).length) (by omega))⟩
      have hkd := HK3.out.on (below_drew (Below.refl _ _)) hBV.size
      have HL2 : Aside0 (LK (fun i => i = bm) w.heap.size w V _) := ⟨(hkd.1.put (.map (ents 0 (seenL (pre.map pl) ++ [(z.f0, 0)])).toArray (seenL (pre.map pl) ++ [(z.f0, 0)]).length) rfl).put (.map (ents 0 (seenL (pre.map pl) ++ [(z.f0, 1)])).toArray (seenL (pre.map pl) ++ [(z.f0, 1)]).length) rfl, below_put (below_put hkd.2 (by omega) _) (by omega) _⟩
      have HMX := Aside0.mk hM2
      have HXX : Aside0 ((((w3.drew.putObj bm (.map (ents 0 (seenL (pre.map pl) ++ [(z.f0, 0)])).toArray (seenL (pre.map pl) ++ [(z.f0, 0)]).length)).putObj bm (.map (ents 0 (seenL (pre.map pl) ++ [(z.f0, 1)])).toArray (seenL (pre.map pl) ++ [(z.f0, 1)]).length))).heap[Bx]? = some (.cells #[.int .i64 z.f0.f0, .int .i64 z.f0.f1, .string z.f1, .string z.f2, .slice B4 z.f3.length e4, .slice B5 z.f4.length e5] 27 (0, 0))) := ⟨(World.putObj_heap_other (by have := HBX.out; omega)).trans ((World.putObj_heap_other (by have := HBX.out; omega)).trans HX3.out)⟩
      generalize hp1 : w3.drew.putObj bm (.map (ents 0 (seenL (pre.map pl) ++ [(z.f0, 0)])).toArray (seenL (pre.map pl) ++ [(z.f0, 0)]).length) = P1 at *
      generalize hp2 : P1.putObj bm (.map (ents 0 (seenL (pre.map pl) ++ [(z.f0, 1)])).toArray (seenL (pre.map pl) ++ [(z.f0, 1)]).length) = P2 at *
      clear hMd hM1 hM2 HKP1 HKP2 hkd hfn hp1 hp2
      gi_upto_region 15 with (fail)
      gi_cut [44] from 56 (fun v wr => Aside0 (wr = P2))
      case first =>
       gi_region
       all_goals
        gi_wp2_with (fail)
        gi_meet
        case rel => exact ⟨rfl⟩
      case rest =>
       obtain rfl := hcut.out
       clear r1 r1d r2 r3 r4 hw1 c2 f2 c4 x0 x1
       have HNC := Aside0.mk (node_calls wc z B4 e4 (.slice B5 z.f4.length e5) (Kd.F_now (Kd.F_step HF.out (fun i hi _ => HL2.out.2.block i hi))))
       have x0 : wc.cell? ⟨Bx, 0, none⟩ = some (.int .i64 z.f0.f0) := Mem.cell_of HXX.out 0
       have x1 : wc.cell? ⟨Bx, 1, none⟩ = some (.int .i64 z.f0.f1) := Mem.cell_of HXX.out 1
       have x2 : wc.cell? ⟨Bx, 2, none⟩ = some (.string z.f1) := Mem.cell_of HXX.out 2
       have x3 : wc.cell? ⟨Bx, 3, none⟩ = some (.string z.f2) := Mem.cell_of HXX.out 3
       have x4 : wc.cell? ⟨Bx, 4, none⟩ = some (.slice B4 z.f3.length e4) := Mem.cell_of HXX.out 4
       have x5 : wc.cell? ⟨Bx, 5, none⟩ = some (.slice B5 z.f4.length e5) := Mem.cell_of HXX.out 5
       gi_wp2_with (fail)
       refine ⟨trivial, ?_⟩
       refine (CallsIn.inRound l (callsIn_wide.2 HNC.out)).mono ?_
       rintro e w5 ⟨rfl, hb5⟩
       have HB5 := Aside0.mk hb5
       have HK5 := Aside0.mk (HL2.out.on hb5 hBV.size)
       have HB25 := Aside0.mk (HK5.out.1.cells hV2 (by show ¬ (w.heap.size + 1 = bm); omega))
       have HM5 := Aside0.mk (show MapS w5 bm _ from (hb5.block _ (blk_lt' HMX.out)).trans HMX.out)
       clear hb5 HNC x0 x1 x2 x3 x4 x5
       have c2 : w5.cell? ⟨w.heap.size + 1, 0, none⟩ = some (.int .i64 0) := Mem.cell_of HB25.out 0
       have f2 := Mem.free_of HB25.out 0
       by_cases hn_ : nodeP z = 0
       ·have HN := Aside0.mk hn_
        have e4_ : (nodeP z == 0) = true := beq_iff_eq.2 hn_
        have e5_ : (nodeP z = 0) = True := eq_true hn_
        clear hn_
        gi_wp2_with (fail)
        refine ⟨HF2.out.trans ((below_others HB5.out).from _), HP2.out.trans (Kw.below HB5.out HL2.out.2.size), ⟨?_, by rw [HE.out, HN.out]⟩, HK5.out⟩
        rw [HMAP.out, seenL_snoc]
        exact HM5.out
       ·have e4_ : (nodeP z == 0) = false := beq_eq_false_iff_ne.2 hn_
        have e5_ : (nodeP z = 0) = False := eq_false hn_
        have HN := Aside0.mk hn_
        clear hn_
        gi_wp2_with (fail)
        refine ⟨(HF2.out.trans ((below_others HB5.out).from _)).trans ((KeepsOthers.setCell _ _ _).from _), ⟨⟨rfl, by rw [HE.out]; exact HN.out⟩, ?_⟩, ?_⟩
        ·rw [HE.out]; exact Mem.set_heap HB25.out 0 _
        ·exact LK.set ⟨⟨HK5.out.1.size, fun i hi hn => HK5.out.1.block i hi (fun h => hn (.inl h))⟩, HK5.out.2⟩ _ (.inr rfl) (Nat.le_succ _)
   ·have e1 : ((yd : Int) = 0) = False := eq_false (by omega)
    have e2 : ((yd : Int) == 0) = false := beq_eq_false_iff_ne.2 (by omega)
    have e3 : ((0 : Int) < (yd : Int)) = True := eq_true (by omega)
    have e3' : (0 < yd) = True := eq_true (by omega)
    have e3'' : (yd = 0) = False := eq_false h0
    have HC := Aside0.mk (right_calls Wr z.f0)
    have HBAD : Aside0 (badK (yd, z) = !rightK z.f0) := ⟨by unfold badK; rw [show ((yd, z).1 == 0) = false from beq_eq_false_iff_ne.2 h0, show decide (0 < (yd, z).1) = true from decide_eq_true (by show 0 < yd; omega)]; simp⟩
    clear h0
    gi_wp2_with (fail)
    refine ⟨trivial, ?_⟩
    gi_wp2_with (fail)
    refine ⟨trivial, ?_⟩
    refine (CallsIn.inRound l (callsIn_wide.2 HC.out)).mono ?_
    rintro e w3 ⟨rfl, hb3⟩
    have HB3 := Aside0.mk hb3
    have HM3 := Aside0.mk (show MapS w3 bm _ from (hb3.block _ (blk_lt' HM.out)).trans HM.out)
    have HK3 := Aside0.mk (HK.out.on hb3 hBV.size)
    have HX3 := Aside0.mk ((hb3.block _ (blk_lt' HX.out)).trans HX.out)
    have HB23 := Aside0.mk ((hb3.block _ (blk_lt' HB2.out)).trans HB2.out)
    have HB43 := Aside0.mk ((hb3.block _ (blk_lt' HB4.out)).trans HB4.out)
    clear hb3 HC x0 x1
    have c2 : w3.cell? ⟨w.heap.size + 1, 0, none⟩ = some (.int .i64 0) := Mem.cell_of HB23.out 0
    have f2 := Mem.free_of HB23.out 0
    have c4 : w3.cell? ⟨bm + 1, 0, none⟩ = some (.map (some bm)) := Mem.cell_of HB43.out 0
    have x0 : w3.cell? ⟨Bx, 0, none⟩ = some (.int .i64 z.f0.f0) := Mem.cell_of HX3.out 0
    have x1 : w3.cell? ⟨Bx, 1, none⟩ = some (.int .i64 z.f0.f1) := Mem.cell_of HX3.out 1
    cases hk_ : rightK z.f0 with
    | false =>
     rw [hk_] at HBAD
     have HE : Aside0 (goC [] ((pre ++ [(⟨yd, z, _, yok, yhd⟩ : Nd w w.heap.size)]).map pl) = 2) := ⟨by rw [HMAP.out, GO.out, if_pos (by rw [HBAD.out]; rfl)]⟩
     gi_wp2_with (fail)
     refine ⟨((below_others HB3.out).trans (KeepsOthers.setCell _ _ _)).from _, ⟨⟨rfl, by rw [HE.out]; decide⟩, ?_⟩, ?_⟩
     ·rw [HE.out]; exact Mem.set_heap HB23.out 0 _
     ·exact LK.set ⟨⟨HK3.out.1.size, fun i hi hn => HK3.out.1.block i hi (fun h => hn (.inl h))⟩, HK3.out.2⟩ _ (.inr rfl) (Nat.le_succ _)
    | true =>
     rw [hk_] at HBAD
     cases hs_ : ks.any (sameK z.f0) with
     | true =>
      have HE : Aside0 (goC [] ((pre ++ [(⟨yd, z, _, yok, yhd⟩ : Nd w w.heap.size)]).map pl) = 5) := ⟨by rw [HMAP.out, GO.out, if_neg (by rw [HBAD.out]; simp), HKS.out, if_pos hs_]⟩
      have r1 : Sem.run Try.prog (Instr.lookup 70 (.map (some bm)) (.agg #[.int .i64 z.f0.f0, .int .i64 z.f0.f1]) false) w3 = .ok (.int .i64 1) w3 := by
       have h_ := look_run HM3.out z.f0
       rw [valP_one (by rw [HKS.out]; exact hs_)] at h_
       exact h_
      gi_wp2_with (fail)
      refine ⟨((below_others HB3.out).trans (KeepsOthers.setCell _ _ _)).from _, ⟨⟨rfl, by rw [HE.out]; decide⟩, ?_⟩, ?_⟩
      ·rw [HE.out]; exact Mem.set_heap HB23.out 0 _
      ·exact LK.set ⟨⟨HK3.out.1.size, fun i hi hn => HK3.out.1.block i hi (fun h => hn (.inl h))⟩, HK3.out.2⟩ _ (.inr rfl) (Nat.le_succ _)
     | false =>
      have HE : Aside0 (goC [] ((pre ++ [(⟨yd, z, _, yok, yhd⟩ : Nd w w.heap.size)]).map pl) = nodeP z) := ⟨by rw [HMAP.out, GO.out, if_neg (by rw [HBAD.out]; simp), HKS.out, if_neg (by rw [hs_]; simp)]⟩
      have hfn : findP (seenL (pre.map pl)) z.f0 0 = none := findP_none _ _ _ (by rw [HKS.out]; exact hs_)
      have r1 : Sem.run Try.prog (Instr.lookup 70 (.map (some bm)) (.agg #[.int .i64 z.f0.f0, .int .i64 z.f0.f1]) false) w3 = .ok (.int .i64 0) w3 := by
       have h_ := look_run HM3.out z.f0
       rw [valP_zero (by rw [HKS.out]; exact hs_)] at h_
       exact h_
      have hMd : MapS w3.drew bm (seenL (pre.map pl)) := HM3.out
      have r1d : Sem.run Try.prog (Instr.lookup 70 (.map (some bm)) (.agg #[.int .i64 z.f0.f0, .int .i64 z.f0.f1]) false) w3.drew = .ok (.int .i64 0) w3.drew := by
       have h_ := look_run hMd z.f0
       rw [valP_zero (by rw [HKS.out]; exact hs_)] at h_
       exact h_
      have r2 : Sem.run Try.prog (Instr.mapEntry 70 (.map (some bm)) (.agg #[.int .i64 z.f0.f0, .int .i64 z.f0.f1])) w3.drew = _ := entry_run hMd z.f0 hfn
      have hM1 := MapS.put (seenL (pre.map pl) ++ [(z.f0, 0)]) hMd
      have hM2 := MapS.put (seenL (pre.map pl) ++ [(z.f0, 1)]) hM1
      have r3 : Sem.run Try.prog (Instr.lookup 70 (.map (some bm)) (.agg #[.int .i64 z.f0.f0, .int .i64 z.f0.f1]) false) (w3.drew.putObj bm (.map (ents 0 (seenL (pre.map pl) ++ [(z.f0, 0)])).toArray (seenL (pre.map pl) ++ [(z.f0, 0)]).length)) = .ok (.int .i64 0) (w3.drew.putObj bm (.map (ents 0 (seenL (pre.map pl) ++ [(z.f0, 0)])).toArray (seenL (pre.map pl) ++ [(z.f0, 0)]).length)) := by
       have h_ := look_run hM1 z.f0
       rw [valP_new hfn 0] at h_
       exact h_
      have r4 := store_run z.f0 1 hM1
      have hw1 : IntKind.i64.wrap 1 = 1 := wrap_one
      have HKP1 : Kw w.heap.size (fun _ => False) w3.drew (w3.drew.putObj bm (.map (ents 0 (seenL (pre.map pl) ++ [(z.f0, 0)])).toArray (seenL (pre.map pl) ++ [(z.f0, 0)]).length)) := Kw.put _ _ _ _ (by omega) hMd rfl
      have HKP2 := HKP1.trans (Kw.put _ _ _ (.map (ents 0 (seenL (pre.map pl) ++ [(z.f0, 1)])).toArray (seenL (pre.map pl) ++ [(z.f0, 1)]).length) (by omega) hM1 rfl)
      have HP2 := Aside0.mk ((Kw.below ((HB3.out.trans ((below_drew (Below.refl _ _)).mono HB3.out.size))) HK.out.2.size).trans HKP2)
      have HF2 : Aside0 (KeepsFrom V.heap.size Wr _) := ⟨((((below_others HB3.out).trans (KeepsOthers.drew _)).from _).trans (KeepsFrom.put (b := bm) (o := .map (ents 0 (seenL (pre.map pl) ++ [(z.f0, 0)])).toArray (seenL (pre.map pl) ++ [(z.f0, 0)]).length) (by omega))).trans (KeepsFrom.put (b := bm) (o := .map (ents 0 (seenL (pre.map pl) ++ [(z.f0, 1)])).toArray (seenL (pre.map pl) ++ [(z.f0, 1)]).length) (by omega))⟩
      have hkd := HK3.out.on (below_drew (Below.refl _ _)) hBV.size
      have HL2 : Aside0 (LK (fun i => i = bm) w.heap.size w V _) := ⟨(hkd.1.put (.map (ents 0 (seenL (pre.map pl) ++ [(z.f0, 0)])).toArray (seenL (pre.map pl) ++ [(z.f0, 0)]).length) rfl).put (.map (ents 0 (seenL (pre.map pl) ++ [(z.f0, 1)])).toArray (seenL (pre.map pl) ++ [(z.f0, 1)]).length) rfl, below_put (below_put hkd.2 (by omega) _) (by omega) _⟩
      have HMX := Aside0.mk hM2
      have HXX : Aside0 ((((w3.drew.putObj bm (.map (ents 0 (seenL (pre.map pl) ++ [(z.f0, 0)])).toArray (seenL (pre.map pl) ++ [(z.f0, 0)]).length)).putObj bm (.map (ents 0 (seenL (pre.map pl) ++ [(z.f0, 1)])).toArray (seenL (pre.map pl) ++ [(z.f0, 1)]).length))).heap[Bx]? = some (.cells #[.int .i64 z.f0.f0, .int .i64 z.f0.f1, .string z.f1, .string z.f2, .slice B4 z.f3.length e4, .slice B5 z.f4.length e5] 27 (0, 0))) := ⟨(World.putObj_heap_other (by have := HBX.out; omega)).trans ((World.putObj_heap_other (by have := HBX.out; omega)).trans HX3.out)⟩
      generalize hp1 : w3.drew.putObj bm (.map (ents 0 (seenL (pre.map pl) ++ [(z.f0, 0)])).toArray (seenL (pre.map pl) ++ [(z.f0, 0)]).length) = P1 at *
      generalize hp2 : P1.putObj bm (.map (ents 0 (seenL (pre.map pl) ++ [(z.f0, 1)])).toArray (seenL (pre.map pl) ++ [(z.f0, 1)]).length) = P2 at *
      clear hMd hM1 hM2 HKP1 HKP2 hkd hfn hp1 hp2
      gi_upto_region 15 with (fail)
      gi_cut [44] from 56 (fun v wr => Aside0 (wr = P2))
      case first =>
       gi_region
       all_goals
        gi_wp2_with (fail)
        gi_meet
        case rel => exact ⟨rfl⟩
      case rest =>
       obtain rfl := hcut.out
       clear r1 r1d r2 r3 r4 hw1 c2 f2 c4 x0 x1
       have HNC := Aside0.mk (node_calls wc z B4 e4 (.slice B5 z.f4.length e5) (Kd.F_now (Kd.F_step HF.out (fun i hi _ => HL2.out.2.block i hi))))
       have x0 : wc.cell? ⟨Bx, 0, none⟩ = some (.int .i64 z.f0.f0) := Mem.cell_of HXX.out 0
       have x1 : wc.cell? ⟨Bx, 1, none⟩ = some (.int .i64 z.f0.f1) := Mem.cell_of HXX.out 1
       have x2 : wc.cell? ⟨Bx, 2, none⟩ = some (.string z.f1) := Mem.cell_of HXX.out 2
       have x3 : wc.cell? ⟨Bx, 3, none⟩ = some (.string z.f2) := Mem.cell_of HXX.out 3
       have x4 : wc.cell? ⟨Bx, 4, none⟩ = some (.slice B4 z.f3.length e4) := Mem.cell_of HXX.out 4
       have x5 : wc.cell? ⟨Bx, 5, none⟩ = some (.slice B5 z.f4.length e5) := Mem.cell_of HXX.out 5
       gi_wp2_with (fail)
       refine ⟨trivial, ?_⟩
       refine (CallsIn.inRound l (callsIn_wide.2 HNC.out)).mono ?_
       rintro e w5 ⟨rfl, hb5⟩
       have HB5 := Aside0.mk hb5
       have HK5 := Aside0.mk (HL2.out.on hb5 hBV.size)
       have HB25 := Aside0.mk (HK5.out.1.cells hV2 (by show ¬ (w.heap.size + 1 = bm); omega))
       have HM5 := Aside0.mk (show MapS w5 bm _ from (hb5.block _ (blk_lt' HMX.out)).trans HMX.out)
       clear hb5 HNC x0 x1 x2 x3 x4 x5
       have c2 : w5.cell? ⟨w.heap.size + 1, 0, none⟩ = some (.int .i64 0) := Mem.cell_of HB25.out 0
       have f2 := Mem.free_of HB25.out 0
       by_cases hn_ : nodeP z = 0
       ·have HN := Aside0.mk hn_
        have e4_ : (nodeP z == 0) = true := beq_iff_eq.2 hn_
        have e5_ : (nodeP z = 0) = True := eq_true hn_
        clear hn_
        gi_wp2_with (fail)
        refine ⟨HF2.out.trans ((below_others HB5.out).from _), HP2.out.trans (Kw.below HB5.out HL2.out.2.size), ⟨?_, by rw [HE.out, HN.out]⟩, HK5.out⟩
        rw [HMAP.out, seenL_snoc]
        exact HM5.out
       ·have e4_ : (nodeP z == 0) = false := beq_eq_false_iff_ne.2 hn_
        have e5_ : (nodeP z = 0) = False := eq_false hn_
        have HN := Aside0.mk hn_
        clear hn_
        gi_wp2_with (fail)
        refine ⟨(HF2.out.trans ((below_others HB5.out).from _)).trans ((KeepsOthers.setCell _ _ _).from _), ⟨⟨rfl, by rw [HE.out]; exact HN.out⟩, ?_⟩, ?_⟩
        ·rw [HE.out]; exact Mem.set_heap HB25.out 0 _
        ·exact LK.set ⟨⟨HK5.out.1.size, fun i hi hn => HK5.out.1.block i hi (fun h => hn (.inl h))⟩, HK5.out.2⟩ _ (.inr rfl) (Nat.le_succ _)
  case done2 =>
   rintro D2 ys W hD2 hys ⟨⟨hM, hg⟩, hK⟩ hKD2
   have HG : Aside0 (checkP x = 0) := ⟨by unfold checkP; rw [if_neg (by have := HL.out; omega), ← hys]; exact hg⟩
   have HB2 := Aside0.mk (hK.1.cells hV2 (by show ¬ (w.heap.size + 1 = bm); omega))
   have HD1 := Aside0.mk (hK.1.cells HVD.out (by show ¬ (D = bm); have := HDL.out; omega))
   have HK := Aside0.mk hK
   have HD2 := Aside0.mk hKD2
   have c2 := Mem.cell_of HB2.out 0
   have f2 := Mem.free_of HB2.out 0
   clear hM hg hys hK hKD2
   go_wp2_with (fail)
   have h0 := HDL.out
   have he1 := (Mem.set_other W ⟨w.heap.size + 1, 0, none⟩ (.int .i64 0) D2 (by show D2 ≠ w.heap.size + 1; omega)).trans HD2.out
   have he2 := (Mem.set_other W ⟨w.heap.size + 1, 0, none⟩ (.int .i64 0) D (by show D ≠ w.heap.size + 1; omega)).trans HD1.out
   have he3 := Mem.set_heap HB2.out 0 (.int .i64 0)
   have he4 : ((W.setCell ⟨w.heap.size + 1, 0, none⟩ (.int .i64 0)).putObj D2 (.deferred none)).heap[D]? = _ := (World.putObj_heap_other (by omega)).trans he2
   have he5 : ((W.setCell ⟨w.heap.size + 1, 0, none⟩ (.int .i64 0)).putObj D2 (.deferred none)).heap[w.heap.size + 1]? = _ := (World.putObj_heap_other (by omega)).trans he3
   have he6 : (((W.setCell ⟨w.heap.size + 1, 0, none⟩ (.int .i64 0)).putObj D2 (.deferred none)).putObj D (.deferred none)).heap[w.heap.size + 1]? = some (.cells #[.int .i64 0] 29 (0, 0)) := (World.putObj_heap_other (by omega)).trans he5
   refine ⟨by simp, .inl ⟨_, _, rfl, run_takeDeferred he1, by simp, .inl ⟨_, _, rfl, run_takeDeferred he4, ?_⟩⟩⟩
   refine ⟨_, results_ci rfl _ _ (w.heap.size + 1) 0 rfl (Mem.cell_of he6 0) Try.underlying29, by rw [HG.out], ?_⟩
   exact ((below_set HK.out.2 (Nat.le_succ _)).trans (belowK_b (w := V) hBV.size _ D2 _ _ hD2 he1 rfl rfl)).trans (belowK_b (w := U) hBU.size _ D _ _ hD he4 rfl rfl)
  case stop2 =>
   rintro D2 c pre W hD2 hsp ⟨⟨⟨rfl, hl⟩, h2⟩, hK⟩ hKD2
   have HG : Aside0 (checkP x = goC [] (pre.map pl)) := ⟨by unfold checkP; rw [if_neg (by have := HL.out; omega)]; exact goC_prefix hsp hl⟩
   have HD1 := Aside0.mk (hK.1.cells HVD.out (by have := HDL.out; rintro (h | h) <;> omega))
   refine wpIn_wide.2 ?_
   go_wp2_with (fail)
   have h0 := HDL.out
   have he4 : (W.putObj D2 (.deferred none)).heap[D]? = _ := (World.putObj_heap_other (by omega)).trans HD1.out
   have he5 : (W.putObj D2 (.deferred none)).heap[w.heap.size + 1]? = _ := (World.putObj_heap_other (by omega)).trans h2
   have he6 : ((W.putObj D2 (.deferred none)).putObj D (.deferred none)).heap[w.heap.size + 1]? = some (.cells #[.int .i64 (goC [] (pre.map pl))] 29 (0, 0)) := (World.putObj_heap_other (by omega)).trans he5
   refine ⟨by simp, .inl ⟨_, _, rfl, run_takeDeferred hKD2, by simp, .inl ⟨_, _, rfl, run_takeDeferred he4, ?_⟩⟩⟩
   refine ⟨_, results_ci rfl _ _ (w.heap.size + 1) _ rfl (Mem.cell_of he6 0) Try.underlying29, by rw [HG.out], ?_⟩
   exact (hK.2.trans (belowK_b (w := V) hBV.size _ D2 _ _ hD2 hKD2 rfl rfl)).trans (belowK_b (w := U) hBU.size _ D _ _ hD he4 rfl rfl)
 case stop =>
  rintro D c pre W hD hsp ⟨⟨⟨rfl, hl⟩, h2⟩, hK⟩ hKD
  have HL : Aside0 (8192 < szT x) := ⟨by
   have := hsp.length_le
   rw [List.length_map, HSZ.out] at this
   omega⟩
  clear hsp hl
  refine wpIn_wide.2 ?_
  go_wp2_with (fail)
  refine ⟨by simp, .inl ⟨_, _, rfl, run_takeDeferred hKD, ?_⟩⟩
  have h2' : (W.putObj D (.deferred none)).heap[w.heap.size + 1]? = some (.cells #[.int .i64 3] 29 (0, 0)) := (World.putObj_heap_other (by omega)).trans h2
  refine ⟨_, results_ci rfl _ _ (w.heap.size + 1) 3 rfl (Mem.cell_of h2' 0) Try.underlying29, ?_, hK.2.trans (belowK_b (w := U) hBU.size W D _ _ hD hKD rfl rfl)⟩
  unfold checkP
  rw [if_pos HL.out]
end Go.Proofs.Ytnkbgimihikhoaa.PVt
namespace Go.Proofs.Ytnkbgimihikhoaa.PVt
open Go.RowKit Go.Proofs.YtnkbgimihikhoaaW.PrintWords Go.Proofs.YtnkbgimihikhoaaW.PrintLast Go.Proofs.YtnkbgimihikhoaaW.PrintMore
open Go.Proofs.Ytnkbgimihikhoaa.Gm
set_option linter.unusedVariables false
set_option linter.unusedSimpArgs false
section
variable {α β : Type} [DecidableEq α] {d : Kd β} {e : Nat} {W : World} {base : Nat} {f : List (α × Value)} {g : α → List β}
def valM (f : List (α × Value)) (k : α) : Value := (kget f k).getD (.slice none 0 0)
theorem valM_put (f : List (α × Value)) (k0 : α) (v : Value) (k : α) : valM (kput f k0 v) k = if k = k0 then v else valM f k := by
  unfold valM
  rw [look_ins]
  split <;> rfl
/-- What stands behind the keys are rows g, each of its own. -/
structure RZ (d : Kd β) (e : Nat) (W : World) (base : Nat) (f : List (α × Value)) (g : α → List β) : Prop where
  row : ∀ k, d.R e W base (fun _ => True) (valM f k) (g k)
  ne : ∀ k k', k ≠ k' → ∀ j : Nat, (valM f k).ownBlock = some j → (valM f k').ownBlock ≠ some j
theorem RZ.nil (d : Kd β) (e : Nat) (W : World) (base : Nat) : RZ d e W base ([] : List (α × Value)) (fun _ => []) := ⟨fun k => Kd.R_nil _ _ _ _ _, fun k k' _ j h => by cases h⟩
theorem R_putO {v : Value} {xs : List β} {ok : Nat → Prop} {b : Nat} {o : Obj} (h : d.R e W base ok v xs) (hb : W.heap[b]? = some o) (hc : o.isCells = false) (o' : Obj) : d.R e (W.putObj b o') base ok v xs :=
  Kd.R_mono (Kd.R_move (Kd.R_bound h) (fun k hk => World.putObj_heap_other (by
    obtain ⟨_, _, _, q, _, cells, hcc⟩ := hk
    rintro rfl
    rw [hcc] at hb
    cases hb
    cases hc))) (fun _ hk => hk.1)
theorem RZ.put {b : Nat} {o : Obj} (h : RZ d e W base f g) (hb : W.heap[b]? = some o) (hc : o.isCells = false) (o' : Obj) : RZ d e (W.putObj b o') base f g := ⟨fun k => R_putO (h.row k) hb hc o', h.ne⟩
theorem RZ.below {W' : World} (h : RZ d e W base f g) (hb : Below W.heap.size W W') : RZ d e W' base f g := ⟨fun k => Kd.R_below (h.row k) hb, h.ne⟩
theorem RZ.grow {w1 : World} {k0 : α} {x : β} {v1 : Value} (hE : d.E = []) (h : RZ d e W base f g) (hR : d.R e w1 base (fun _ => True) v1 (g k0 ++ [x])) (hg : W.grownBy w1 (valM f k0).ownBlock) (hat : v1.ownBlock = (valM f k0).ownBlock ∨ ∃ j, v1.ownBlock = some j ∧ W.heap.size ≤ j) :
    RZ d e w1 base (kput f k0 v1) (fun k => if k = k0 then g k0 ++ [x] else g k) := by
  have lt : ∀ k (j : Nat), (valM f k).ownBlock = some j → j < W.heap.size := fun k j hj => by
    obtain ⟨inner, ho⟩ := Kd.R_own (h.row k)
    exact own_lt ho j hj
  refine ⟨fun k => ?_, fun k k' hne j hj => ?_⟩
  · rw [valM_put]
    by_cases hk : k = k0
    · rw [if_pos hk, if_pos hk]; exact hR
    · rw [if_neg hk, if_neg hk]
      exact Kd.R_grown2 (h.row k) hE hg (fun j hj ej => h.ne k0 k (fun e_ => hk e_.symm) j hj ej.symm)
  · rw [valM_put] at hj ⊢
    by_cases hk : k = k0
    · rw [if_pos hk] at hj
      rw [if_neg (fun e_ => hne (hk.trans e_.symm))]
      rcases hat with hat | ⟨j', hj', hle⟩
      · exact h.ne k0 k' (fun e_ => hne (hk.trans e_)) j (hat ▸ hj)
      · rw [hj'] at hj
        cases hj
        intro e_
        have := lt k' j e_
        omega
    · rw [if_neg hk] at hj
      by_cases hk' : k' = k0
      · rw [if_pos hk']
        rcases hat with hat | ⟨j', hj', hle⟩
        · rw [hat]; exact h.ne k k0 hk j hj
        · rw [hj']
          intro e_
          cases e_
          have := lt k j hj
          omega
      · rw [if_neg hk']; exact h.ne k k' hne j hj
theorem RZ.g_eq {g' : α → List β} (h : RZ d e W base f g) (hg : ∀ k, g k = g' k) : RZ d e W base f g' := ⟨fun k => hg k ▸ h.row k, h.ne⟩
end
/-- A projector's maps, as they lie when a Doc has been taken in. -/
structure ProjS (W : World) (n1 : Nat) (D : DocP) (p m a1 a2 a3 a4 : Nat) : Prop where
  tags : ∃ f, MapA dTag W a1 f ∧ ∀ k, kget f k = (tagP D.made k).map Value.string
  regs : ∃ f, MapA dReg W a2 f ∧ ∀ k, ∃ A c, valM f k = .slice A (regsP D.regs k).length c ∧ (regsP D.regs k).length ≤ c ∧ Kd.F k111 W (fun j => j < n1 ∧ j ≠ p ∧ j ≠ m) A (regsP D.regs k).length (regsP D.regs k)
  slots : ∃ f, MapA dSlot W a3 f ∧ ∀ k, ∃ A c, valM f k = .slice A (slotsP D.rows k).length c ∧ (slotsP D.rows k).length ≤ c ∧ Kd.F k23 W (fun j => j < n1 ∧ j ≠ p ∧ j ≠ m) A (slotsP D.rows k).length (slotsP D.rows k)
  ins : ∃ f, MapA dIn W a4 f ∧ ∀ q : S23 × S23, ∃ A c, valM f q = .slice A (inP D.placed q.1 q.2).length c ∧ (inP D.placed q.1 q.2).length ≤ c ∧ Kd.F k23 W (fun j => j < n1 ∧ j ≠ p ∧ j ≠ m) A (inP D.placed q.1 q.2).length (inP D.placed q.1 q.2)
  lt : a1 < n1 ∧ a2 < n1 ∧ a3 < n1 ∧ a4 < n1
  ne : (a1 ≠ p ∧ a2 ≠ p ∧ a3 ≠ p ∧ a4 ≠ p) ∧ a1 ≠ m ∧ a2 ≠ m ∧ a3 ≠ m ∧ a4 ≠ m
/-- Rows, each of its own, as they are read: whoever keeps these blocks keeps them. -/
theorem R_foot {β : Type} {d : Kd β} {e : Nat} {W : World} {base : Nat} {v : Value} {xs : List β} {ok : Nat → Prop} (hE : d.E = []) (h : d.R e W base (fun _ => True) v xs) (hok : ∀ j c, v.ownBlock = some j → W.heap[j]? = some (.cells c e (0, 0)) → ok j) : ∃ A c, v = .slice A xs.length c ∧ xs.length ≤ c ∧ Kd.F d W ok A xs.length xs := by
  obtain ⟨A, c, rfl, hc, _⟩ := Kd.R_reads h
  refine ⟨A, c, rfl, hc, fun W' hW' => ?_⟩
  have ht := Kd.R_tight hE h
  have h2 := Kd.R_step (w1 := W') ht (fun k hk hlt => hW' k (by
    obtain ⟨_, ho⟩ := Kd.R_own h
    obtain ⟨cc, hcc⟩ := own_typed ho k hk.symm
    exact hok k cc hk.symm hcc) hlt)
  obtain ⟨A', c', e', _, h3⟩ := Kd.R_reads h2
  cases e'
  exact h3
theorem LK.put {T : Nat → Prop} {n0 b : Nat} {Wb U W : World} (h : LK T n0 Wb U W) (o : Obj) (hT : T b) (hn : n0 ≤ b) : LK T n0 Wb U (W.putObj b o) := ⟨h.1.put o hT, below_put h.2 hn o⟩
theorem regsP_take (l : List S111) (k : S23) {i : Nat} (hi : i < l.length) : regsP (l.take (i + 1)) k = if sameK (rd_T111 l (i : Int)).f0 k = true then regsP (l.take i) k ++ [rd_T111 l (i : Int)] else regsP (l.take i) k := by
  have h : l.take (i + 1) = l.take i ++ [rd_T111 l (i : Int)] := by
    unfold rd_T111
    rw [Int.toNat_natCast, List.take_add_one, List.getD_eq_getElem?_getD, List.getElem?_eq_getElem hi]
    rfl
  rw [h, regsP_snoc]
theorem inP_take (l : List S97) (p s : S23) {i : Nat} (hi : i < l.length) : inP (l.take (i + 1)) p s = if sameK (rd_T97 l (i : Int)).f1 p = true ∧ sameK (rd_T97 l (i : Int)).f2 s = true then inP (l.take i) p s ++ [(rd_T97 l (i : Int)).f0] else inP (l.take i) p s := by
  have h : l.take (i + 1) = l.take i ++ [rd_T97 l (i : Int)] := by
    unfold rd_T97
    rw [Int.toNat_natCast, List.take_add_one, List.getD_eq_getElem?_getD, List.getElem?_eq_getElem hi]
    rfl
  rw [h, inP_snoc]
theorem regsP_le (l : List S111) (k : S23) : (regsP l k).length ≤ l.length := List.length_filter_le _ _
theorem own_ne_map {β : Type} {d : Kd β} {e base b : Nat} {W : World} {v : Value} {xs : List β} {ok : Nat → Prop} {o : Obj} (h : d.R e W base ok v xs) (hb : W.heap[b]? = some o) (hc : o.isCells = false) : some b ≠ v.ownBlock := by
  intro e_
  obtain ⟨_, ho⟩ := Kd.R_own h
  obtain ⟨c, hcc⟩ := own_typed ho b e_.symm
  rw [hcc] at hb
  cases hb
  cases hc
theorem own_below {β : Type} {d : Kd β} {e base : Nat} {W : World} {v : Value} {xs : List β} {ok : Nat → Prop} (h : d.R e W base ok v xs) : ∀ j, v.ownBlock = some j → base ≤ j ∧ j < W.heap.size := fun j hj => by
  obtain ⟨_, ho⟩ := Kd.R_own h
  exact ⟨own_base ho j hj, own_lt ho j hj⟩
theorem alloc_far {W : World} {b : Nat} (h : b < W.heap.size) (o : Obj) : (W.alloc o).heap[b]? = W.heap[b]? := (below_alloc (Below.refl _ _) _).block b h
theorem KeptT.two {T1 T2 T : Nat → Prop} {U W W' : World} (h : KeptT T1 U W) (k : KeptT T2 W W') (h1 : ∀ j, T1 j → T j) (h2 : ∀ j, T2 j → T j) : KeptT T U W' :=
  ⟨Nat.le_trans h.size k.size, fun i hi hn => (k.block i (Nat.lt_of_lt_of_le hi h.size) (fun e => hn (h2 i e))).trans (h.block i hi (fun e => hn (h1 i e)))⟩
theorem RZ.kept {α β : Type} [DecidableEq α] {d : Kd β} {e base : Nat} {W W' : World} {f : List (α × Value)} {g : α → List β} {T : Nat → Prop} (h : RZ d e W base f g) (hk : KeptT T W W') (hT : ∀ j, T j → j < W.heap.size → ∃ o, W.heap[j]? = some o ∧ o.isCells = false) : RZ d e W' base f g :=
  ⟨fun k => Kd.R_mono (Kd.R_step (Kd.R_bound (h.row k)) (fun j hj hlt => hk.block j hlt (fun ht => by
    obtain ⟨_, _, _, q, _, cells, hcc⟩ := hj
    obtain ⟨o, ho, hc⟩ := hT j ht hlt
    rw [hcc] at ho
    cases ho
    cases hc))) (fun _ hj => hj.1), h.ne⟩
/-- Rows gone over from the last one on: the slots behind each parent. -/
def slotsV {w0 : World} {n0 : Nat} {l : List S74} (pre : List (RB w0 n0 l)) : List (S23 × Value) := pre.foldl (fun f r => kput f (rd_T74 l (r.i : Int)).f0 (.slice r.A (rd_T74 l (r.i : Int)).f1.length r.c)) []
theorem slotsV_snoc {w0 : World} {n0 : Nat} {l : List S74} (pre : List (RB w0 n0 l)) (r : RB w0 n0 l) : slotsV (pre ++ [r]) = kput (slotsV pre) (rd_T74 l (r.i : Int)).f0 (.slice r.A (rd_T74 l (r.i : Int)).f1.length r.c) := by simp [slotsV]
def slotsG (l : List S74) (pre : List Nat) (k : S23) : List S23 := pre.foldl (fun g (i : Nat) => if k = (rd_T74 l (i : Int)).f0 then (rd_T74 l (i : Int)).f1 else g) []
theorem slotsG_snoc (l : List S74) (pre : List Nat) (i : Nat) (k : S23) : slotsG l (pre ++ [i]) k = if k = (rd_T74 l (i : Int)).f0 then (rd_T74 l (i : Int)).f1 else slotsG l pre k := by simp [slotsG]
theorem rd_T74_cons (m : S74) (l : List S74) (i : Nat) : rd_T74 (m :: l) ((i + 1 : Nat) : Int) = rd_T74 l (i : Int) := by unfold rd_T74; simp
theorem slotsG_all : ∀ (l : List S74) (k : S23), slotsG l (List.range l.length).reverse k = slotsP l k
  | [], k => rfl
  | m :: l, k => by
    have h1 : (List.range (m :: l).length).reverse = (List.range l.length).reverse.map (· + 1) ++ [0] := by
      rw [List.length_cons, List.range_succ_eq_map, List.reverse_cons, ← List.map_reverse]
    have h2 : ∀ (pre : List Nat) (f : List S23), (pre.map (· + 1)).foldl (fun g (i : Nat) => if k = (rd_T74 (m :: l) (i : Int)).f0 then (rd_T74 (m :: l) (i : Int)).f1 else g) f = pre.foldl (fun g (i : Nat) => if k = (rd_T74 l (i : Int)).f0 then (rd_T74 l (i : Int)).f1 else g) f := by
      intro pre
      induction pre with
      | nil => intro f; rfl
      | cons a t ih => intro f; rw [List.map_cons, List.foldl_cons, List.foldl_cons, ih, rd_T74_cons]
    rw [h1, slotsG_snoc]
    have h3 : slotsG (m :: l) ((List.range l.length).reverse.map (· + 1)) k = slotsG l (List.range l.length).reverse k := h2 _ _
    rw [h3, slotsG_all l k, slotsP]
    have h0 : rd_T74 (m :: l) ((0 : Nat) : Int) = m := rfl
    rw [h0]
    by_cases hk : sameK m.f0 k = true
    · rw [if_pos hk, if_pos (sameK_iff.1 hk).symm]
    · rw [if_neg hk, if_neg (fun e => hk (sameK_iff.2 e.symm))]
theorem snoc_ind {α : Type} {Q : List α → Prop} (h0 : Q []) (h1 : ∀ l a, Q l → Q (l ++ [a])) (l : List α) : Q l := by
  have h : ∀ m : List α, Q m.reverse := by
    intro m
    induction m with
    | nil => exact h0
    | cons a t ih => rw [List.reverse_cons]; exact h1 _ _ ih
  have := h l.reverse
  rwa [List.reverse_reverse] at this
theorem slotsV_val {w0 : World} {n0 : Nat} {l : List S74} (pre : List (RB w0 n0 l)) (k : S23) : ∃ A c, valM (slotsV pre) k = .slice A (slotsG l (pre.map RB.i) k).length c ∧ (slotsG l (pre.map RB.i) k).length ≤ c ∧ Kd.F k23 w0 (fun j => j < n0) A (slotsG l (pre.map RB.i) k).length (slotsG l (pre.map RB.i) k) := by
  refine snoc_ind (Q := fun pre => ∃ A c, valM (slotsV pre) k = .slice A (slotsG l (pre.map RB.i) k).length c ∧ (slotsG l (pre.map RB.i) k).length ≤ c ∧ Kd.F k23 w0 (fun j => j < n0) A (slotsG l (pre.map RB.i) k).length (slotsG l (pre.map RB.i) k)) ?_ ?_ pre
  · exact ⟨none, 0, rfl, Nat.le_refl _, fun W' _ => Kd.C_nil k23 W'⟩
  · intro pre r ⟨A, c, h1, h2, h3⟩
    rw [slotsV_snoc, valM_put, List.map_append, List.map_cons, List.map_nil, slotsG_snoc]
    by_cases hk : k = (rd_T74 l (r.i : Int)).f0
    · rw [if_pos hk, if_pos hk]
      exact ⟨r.A, r.c, rfl, r.hc, r.ok⟩
    · rw [if_neg hk, if_neg hk]
      exact ⟨A, c, h1, h2, h3⟩
theorem region_calm {P : Program} {id : Nat} {ops : Array Oper} {a : Act} {w : World} {Q : Exit → Act → World → Prop} {b : Bool} (h : (Code.region id ops b).wp P (fun x a w => x = .normal ∧ Q x a w) a w) : (Code.region id ops b).wp P Q a w := Code.wp_mono (fun _ _ _ h => h.2) h
theorem regs_room (l : List S111) (k : S23) (i : Nat) (h : l.length ≤ 600) : ((regsP (l.take i) k).length + 1) * 72 ≤ 140737488355328 := by
  have h1 := regsP_le (l.take i) k
  rw [List.length_take] at h1
  omega
theorem ins_room (l : List S97) (p s : S23) (i : Nat) (h : l.length ≤ 600) : ((inP (l.take i) p s).length + 1) * 16 ≤ 140737488355328 := by
  have h1 := inP_le (l.take i) p s
  rw [List.length_take] at h1
  omega
theorem wrap_up {n : Nat} (h : n < 4611686018427387904) : wrap64 ((n : Int) + 1) = ((n + 1 : Nat) : Int) := by unfold wrap64; omega
/-- Two things done to a world that do not meet. -/
theorem putObj_alloc (W : World) {b : Nat} (hb : b < W.heap.size) (o o' : Obj) : (W.alloc o).putObj b o' = (W.putObj b o').alloc o := by
  unfold World.alloc World.putObj
  simp only [World.mk.injEq, and_true, true_and]
  apply Array.ext_getElem?
  intro i
  simp [Array.getElem?_push, Array.getElem?_setIfInBounds]
  by_cases h : b = i
  · subst h
    rw [if_pos rfl, if_pos (by omega), if_neg (by omega), if_pos rfl, if_pos hb]
  · rw [if_neg h, if_neg h]
end Go.Proofs.Ytnkbgimihikhoaa.PVt
