/- The contract of topiarylaw04.awake: it answers what its plain function answers. -/
import Derived.Test.YtnifikpldibbdaaPSealx0
import Derived.Test.YtnifikpldibbdaaPSealx1
import Derived.Test.YtnifikpldibbdaaPSealx6
import Derived.Test.YtnifikpldibbdaaPSealx7
import Derived.Test.YtnifikpldibbdaaM0
import Derived.Lib.SmallJoins
import Derived.Test.YtnifikpldibbdaaHSeal18
namespace Go.Proofs.Ytnifikpldibbdaa.PSeal
open Go.RowKit Go.Proofs.YtnifikpldibbdaaW.PrintWords Go.Proofs.YtnifikpldibbdaaW.PrintLast Go.Proofs.YtnifikpldibbdaaW.PrintMore
attribute [local go_sem] max2_int min2_int max_two min_two max_three min_three max_four min_four   -- for this text's walks alone
set_option linter.unusedVariables false
set_option linter.unusedSimpArgs false


theorem my_alloc_size (w : World) (o : Obj) : (w.alloc o).heap.size = w.heap.size + 1 := by
  show (w.heap.push o).size = _
  simp
theorem my_two_lits (w1 : World) : (Kd.slice 5 (Kd.int .u8)).C
    (((w1.alloc (.cells #[.int .u8 49, .int .u8 50, .int .u8 51, .int .u8 52] 5 (4, 5))).alloc (.cells #[.int .u8 53, .int .u8 54, .int .u8 55, .int .u8 56, .int .u8 57] 5 (5, 6))).alloc (.cells #[.slice (some ⟨w1.heap.size, 0, none⟩) 4 4, .slice (some ⟨w1.heap.size + 1, 0, none⟩) 5 5] 23))
    (some ⟨w1.heap.size + 1 + 1, 0, none⟩) 2 [[49, 50, 51, 52], [53, 54, 55, 56, 57]] := by
  have h := my_C_two ((w1.alloc (.cells ([49, 50, 51, 52].map (Value.int .u8)).toArray 5 (4, 5))).alloc (.cells ([53, 54, 55, 56, 57].map (Value.int .u8)).toArray 5 (5, 6))) .u8 (some ⟨w1.heap.size, 0, none⟩) (some ⟨w1.heap.size + 1, 0, none⟩) 4 5 23 5 [49, 50, 51, 52] [53, 54, 55, 56, 57] (by decide) (by decide)
    (my_C_alloc (my_C_lit w1 .u8 [49, 50, 51, 52] 5 (4, 5) (by decide)) _)
    (by have g := my_C_lit (w1.alloc (.cells ([49, 50, 51, 52].map (Value.int .u8)).toArray 5 (4, 5))) .u8 [53, 54, 55, 56, 57] 5 (5, 6) (by decide); rw [my_alloc_size] at g; exact g)
  rw [my_alloc_size, my_alloc_size] at h
  exact h
set_option maxHeartbeats 8000000 in
set_option maxRecDepth 100000 in
theorem topiarylaw04_awake.calls (k : Nat)  (r : Bool) (w : World) (h : topiarylaw04_awake.f k  = some r) :
    Calls Try.prog 17 #[] w fun e w' => e = .returned (.bool r) ∧ Below w.heap.size w w' := by
  unfold topiarylaw04_awake.f at h
  obtain ⟨⟨s, t⟩, hs, H⟩ := Option.bind_eq_some_iff.mp h
  clear h
  have Hs := Aside0.mk hs
  clear hs
  dsimp only at H
  by_cases c2 : t = 0
  · rw [if_pos c2] at H
    have c2b : (t == 0) = true := beq_iff_eq.mpr c2
    clear c2
    by_cases c3 : (s.length : Int) = 10
    · rw [if_pos c3, if_pos (show 0 < (s.length : Int) by omega)] at H
      have c3b : ((s.length : Int) == 10) = true := beq_iff_eq.mpr c3
      have l0 : 0 < s.length := by omega
      have l5 : 5 < s.length := by omega
      clear c3
      by_cases c5 : rd s 0 = 2
      · rw [if_pos c5, if_pos (show 5 < (s.length : Int) by omega)] at H
        have c5b : (rd s 0 == 2) = true := beq_iff_eq.mpr c5
        clear c5
        by_cases c7 : rd s 5 = 97
        · rw [if_pos c7] at H
          have c7b : (rd s 5 == 97) = true := beq_iff_eq.mpr c7
          clear c7
          obtain ⟨q, hq, H⟩ := Option.bind_eq_some_iff.mp H
          obtain rfl := Option.some.inj H
          clear H
          have Hq := Aside0.mk hq
          clear hq
          have kc := fun (w : World) (C : Array Value) (n c : Nat) => Lib.run_convert_bytes_const (P := Try.prog) w 23 5 C n c Try.underlying23 Try.underlying5
          have kc2 := fun (w : World) (o : Obj) (C : Array Value) (n c : Nat) => Go.Joins.run_convert_bytes_const_at (P := Try.prog) (w.alloc o) 23 5 C n c (w.heap.size + 1) (my_alloc_size w o).symm Try.underlying23 Try.underlying5
          go_enter Try.func17, Try.ntmps17
          go_wp2_with (fail)
          refine (seal_Seal.calls k 2 (some ⟨w.heap.size, 0, none⟩) 1 [97] s t _ (my_C_lit w .u8 [97] 5 (1, 2) (by decide)) (by decide) Hs.out).mono ?_
          rintro e w1 ⟨v, rfl, ho, hb0⟩
          obtain ⟨A, c, rfl⟩ := Kd.R_slice ho
          have hb : Below w.heap.size w w1 := below_step ((Below.refl w.heap.size w).alloc (Nat.le_refl _) _) hb0
          have hC := (Kd.R_reads' ho).2.2
          clear ho hb0
          obtain ⟨ad, rfl, hx0⟩ := Kd.at_int hC 0 (by omega) (by omega)
          obtain ⟨ad5, e5, hx5⟩ := Kd.at_int hC 5 (by omega) (by omega)
          obtain rfl : ad = ad5 := Option.some.inj e5
          rw [show (0 : Int).toNat = 0 from rfl, Addr.add_zero'] at hx0
          rw [show (5 : Int).toNat = 5 from rfl] at hx5
          unfold Addr.add at hx5
          rw [if_neg (by decide)] at hx5
          clear e5 hC
          have hbb := Aside0.mk hb
          clear hb
          go_wp2_with (fail)
          refine (seal_Sum.calls k _ 2 [[49, 50, 51, 52], [53, 54, 55, 56, 57]] q _ (my_two_lits w1) (by decide) Hq.out).mono ?_
          rintro e w2 ⟨rfl, ⟨nd, rfl⟩⟩
          go_wp2
          go_ret
          exact ⟨rfl, by repeat (first | (with_reducible first | exact hbb.out | apply below_alloc | apply pw_below_drewN) | exact hbb.out)⟩
        · rw [if_neg c7] at H
          have c7b : (rd s 5 == 97) = false := beq_eq_false_iff_ne.mpr c7
          clear c7
          obtain rfl := Option.some.inj H
          clear H
          have kc := fun (w : World) (C : Array Value) (n c : Nat) => Lib.run_convert_bytes_const (P := Try.prog) w 23 5 C n c Try.underlying23 Try.underlying5
          have kc2 := fun (w : World) (o : Obj) (C : Array Value) (n c : Nat) => Go.Joins.run_convert_bytes_const_at (P := Try.prog) (w.alloc o) 23 5 C n c (w.heap.size + 1) (my_alloc_size w o).symm Try.underlying23 Try.underlying5
          go_enter Try.func17, Try.ntmps17
          go_wp2_with (fail)
          refine (seal_Seal.calls k 2 (some ⟨w.heap.size, 0, none⟩) 1 [97] s t _ (my_C_lit w .u8 [97] 5 (1, 2) (by decide)) (by decide) Hs.out).mono ?_
          rintro e w1 ⟨v, rfl, ho, hb0⟩
          obtain ⟨A, c, rfl⟩ := Kd.R_slice ho
          have hb : Below w.heap.size w w1 := below_step ((Below.refl w.heap.size w).alloc (Nat.le_refl _) _) hb0
          have hC := (Kd.R_reads' ho).2.2
          clear ho hb0
          obtain ⟨ad, rfl, hx0⟩ := Kd.at_int hC 0 (by omega) (by omega)
          obtain ⟨ad5, e5, hx5⟩ := Kd.at_int hC 5 (by omega) (by omega)
          obtain rfl : ad = ad5 := Option.some.inj e5
          rw [show (0 : Int).toNat = 0 from rfl, Addr.add_zero'] at hx0
          rw [show (5 : Int).toNat = 5 from rfl] at hx5
          unfold Addr.add at hx5
          rw [if_neg (by decide)] at hx5
          clear e5 hC
          have HB := Aside0.mk hb
          clear hb
          go_wp2
          go_ret
          exact ⟨rfl, HB.out⟩
      · rw [if_neg c5] at H
        have c5b : (rd s 0 == 2) = false := beq_eq_false_iff_ne.mpr c5
        clear c5
        obtain rfl := Option.some.inj H
        clear H
        have kc := fun (w : World) (C : Array Value) (n c : Nat) => Lib.run_convert_bytes_const (P := Try.prog) w 23 5 C n c Try.underlying23 Try.underlying5
        have kc2 := fun (w : World) (o : Obj) (C : Array Value) (n c : Nat) => Go.Joins.run_convert_bytes_const_at (P := Try.prog) (w.alloc o) 23 5 C n c (w.heap.size + 1) (my_alloc_size w o).symm Try.underlying23 Try.underlying5
        go_enter Try.func17, Try.ntmps17
        go_wp2_with (fail)
        refine (seal_Seal.calls k 2 (some ⟨w.heap.size, 0, none⟩) 1 [97] s t _ (my_C_lit w .u8 [97] 5 (1, 2) (by decide)) (by decide) Hs.out).mono ?_
        rintro e w1 ⟨v, rfl, ho, hb0⟩
        obtain ⟨A, c, rfl⟩ := Kd.R_slice ho
        have hb : Below w.heap.size w w1 := below_step ((Below.refl w.heap.size w).alloc (Nat.le_refl _) _) hb0
        have hC := (Kd.R_reads' ho).2.2
        clear ho hb0
        obtain ⟨ad, rfl, hx0⟩ := Kd.at_int hC 0 (by omega) (by omega)
        obtain ⟨ad5, e5, hx5⟩ := Kd.at_int hC 5 (by omega) (by omega)
        obtain rfl : ad = ad5 := Option.some.inj e5
        rw [show (0 : Int).toNat = 0 from rfl, Addr.add_zero'] at hx0
        rw [show (5 : Int).toNat = 5 from rfl] at hx5
        unfold Addr.add at hx5
        rw [if_neg (by decide)] at hx5
        clear e5 hC
        have HB := Aside0.mk hb
        clear hb
        go_wp2
        go_ret
        exact ⟨rfl, HB.out⟩
    · rw [if_neg c3] at H
      have c3b : ((s.length : Int) == 10) = false := beq_eq_false_iff_ne.mpr c3
      clear c3
      obtain rfl := Option.some.inj H
      clear H
      have kc := fun (w : World) (C : Array Value) (n c : Nat) => Lib.run_convert_bytes_const (P := Try.prog) w 23 5 C n c Try.underlying23 Try.underlying5
      have kc2 := fun (w : World) (o : Obj) (C : Array Value) (n c : Nat) => Go.Joins.run_convert_bytes_const_at (P := Try.prog) (w.alloc o) 23 5 C n c (w.heap.size + 1) (my_alloc_size w o).symm Try.underlying23 Try.underlying5
      go_enter Try.func17, Try.ntmps17
      go_wp2_with (fail)
      refine (seal_Seal.calls k 2 (some ⟨w.heap.size, 0, none⟩) 1 [97] s t _ (my_C_lit w .u8 [97] 5 (1, 2) (by decide)) (by decide) Hs.out).mono ?_
      rintro e w1 ⟨v, rfl, ho, hb0⟩
      obtain ⟨A, c, rfl⟩ := Kd.R_slice ho
      have hb : Below w.heap.size w w1 := below_step ((Below.refl w.heap.size w).alloc (Nat.le_refl _) _) hb0
      have hC := (Kd.R_reads' ho).2.2
      clear ho hb0
      have HB := Aside0.mk hb
      clear hb
      go_wp2
      go_ret
      exact ⟨rfl, HB.out⟩
  · rw [if_neg c2] at H
    have c2b : (t == 0) = false := beq_eq_false_iff_ne.mpr c2
    clear c2
    obtain rfl := Option.some.inj H
    clear H
    have kc := fun (w : World) (C : Array Value) (n c : Nat) => Lib.run_convert_bytes_const (P := Try.prog) w 23 5 C n c Try.underlying23 Try.underlying5
    have kc2 := fun (w : World) (o : Obj) (C : Array Value) (n c : Nat) => Go.Joins.run_convert_bytes_const_at (P := Try.prog) (w.alloc o) 23 5 C n c (w.heap.size + 1) (my_alloc_size w o).symm Try.underlying23 Try.underlying5
    go_enter Try.func17, Try.ntmps17
    go_wp2_with (fail)
    refine (seal_Seal.calls k 2 (some ⟨w.heap.size, 0, none⟩) 1 [97] s t _ (my_C_lit w .u8 [97] 5 (1, 2) (by decide)) (by decide) Hs.out).mono ?_
    rintro e w1 ⟨v, rfl, ho, hb0⟩
    obtain ⟨A, c, rfl⟩ := Kd.R_slice ho
    have hb : Below w.heap.size w w1 := below_step ((Below.refl w.heap.size w).alloc (Nat.le_refl _) _) hb0
    have hC := (Kd.R_reads' ho).2.2
    clear ho hb0
    have HB := Aside0.mk hb
    clear hb
    go_wp2
    go_ret
    exact ⟨rfl, HB.out⟩
end Go.Proofs.Ytnifikpldibbdaa.PSeal
