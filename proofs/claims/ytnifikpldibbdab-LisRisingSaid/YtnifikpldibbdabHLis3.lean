/- The contract of LisRising. -/
import Derived.Test.YtnifikpldibbdabLisRefs
import Derived.WalkSpells
import Derived.IntWalk
namespace Go.Proofs.Ytnifikpldibbdab.PLis
open Go.RowKit Go.Proofs.YtnifikpldibbdabW.PrintWords Go.Proofs.YtnifikpldibbdabW.PrintLast Go.Proofs.YtnifikpldibbdabW.PrintMore
attribute [local go_sem] max2_int min2_int max_two min_two max_three min_three max_four min_four   -- for this text's walks alone
set_option linter.unusedVariables false
set_option linter.unusedSimpArgs false



open LisPlain
set_option maxRecDepth 100000 in
theorem cut_reads (A0 : Option Addr) (n c0 : Nat) (w : World) (hc : n ≤ c0) : Calls Try.prog 5 #[.slice A0 n c0] w fun e w' => e = .returned (.slice A0 (min 500 n) c0) ∧ w' = w := by
  by_cases hbig : (n : Int) > 500
  · have e1 : decide ((500 : Int) < (n : Int)) = true := decide_eq_true hbig
    have e2 : decide ((n : Int) > 500) = true := decide_eq_true hbig
    have e3 : ((500 : Int) ≤ (c0 : Int)) = True := eq_true (by omega)
    have e4 : (500 ≤ c0) = True := eq_true (by omega)
    have hm : min 500 n = 500 := by omega
    rw [hm]
    go_enter Try.func5, Try.ntmps5
    go_wp2
    go_ret
    exact ⟨rfl, rfl⟩
  · have e1 : decide ((500 : Int) < (n : Int)) = false := decide_eq_false hbig
    have e2 : decide ((n : Int) > 500) = false := decide_eq_false hbig
    have hm : min 500 n = n := by omega
    rw [hm]
    go_enter Try.func5, Try.ntmps5
    go_wp2
    go_ret
    exact ⟨rfl, rfl⟩
set_option maxHeartbeats 8000000 in
set_option maxRecDepth 100000 in
theorem lisRising_calls (A0 : Option Addr) (c0 : Nat) (l0 : List Int) (w : World) (hr0 : Kd.C (Kd.int .i64) w A0 l0.length l0) (hc0 : l0.length ≤ c0) :
    Calls Try.prog 3 #[.slice A0 l0.length c0] w fun e w' => e = .returned (.bool true) ∧ Below w.heap.size w w' := by
  have c5 := fun u => cut_reads A0 l0.length c0 u hc0
  have hxl : (l0.take 500).length = min 500 l0.length := List.length_take
  rw [← hxl] at c5
  have HX : Aside0 (Kd.C (Kd.int .i64) w A0 (l0.take 500).length (l0.take 500)) := ⟨by
    by_cases h : 500 ≤ l0.length
    · exact Kd.C_take hr0 h
    · rw [List.take_of_length_le (by omega)]; exact hr0⟩
  have hxs : (l0.take 500).length ≤ 500 := by omega
  have hxc : (l0.take 500).length ≤ c0 := by omega
  clear hr0 hxl
  generalize l0.take 500 = X at *
  have c6 : ∀ (u : World) (A : Option Addr) (c : Nat), Kd.C (Kd.int .i64) u A X.length X → X.length ≤ c → Calls Try.prog 6 #[.slice A X.length c] u fun e w' => ∃ v0_ : Value, e = .returned (v0_) ∧ Kd.R (Kd.int .i64) 3 w' u.heap.size (fun _ => True) v0_ (rising X) ∧ Below u.heap.size u w' := fun u A c h1 h2 => by
    obtain ⟨k, hk⟩ := Pure.refr_at X (by omega)
    exact topiaryref16_Rising.calls k A c X _ u h1 h2 hk
  have c7 : ∀ (u : World) (A : Option Addr) (c : Nat), Kd.C (Kd.int .i64) u A X.length X → X.length ≤ c → Calls Try.prog 7 #[.slice A X.length c] u fun e w' => ∃ v0_ : Value, e = .returned (v0_) ∧ Kd.R (Kd.int .i64) 3 w' u.heap.size (fun _ => True) v0_ (rising X) ∧ Below u.heap.size u w' := fun u A c h1 h2 =>
    lis_Rising.calls 0 A c X _ u h1 h2 (Pure.rising_at 0 X (by omega))
  have c9 : ∀ (u : World) (A : Option Addr) (c : Nat), Kd.C (Kd.int .i64) u A X.length X → X.length ≤ c → Calls Try.prog 9 #[.slice A X.length c] u fun e w' => e = .returned (.int .i64 (need X : Int)) ∧ Below u.heap.size u w' := fun u A c h1 h2 =>
    lis_Long.calls 0 A c X _ u h1 h2 (Pure.long_at 0 X (by omega))
  have c10 : ∀ (u : World) (A : Option Addr) (c : Nat), Kd.C (Kd.int .i64) u A X.length X → X.length ≤ c → Calls Try.prog 10 #[.slice A X.length c] u fun e w' => ∃ v0_ : Value, e = .returned (v0_) ∧ Kd.R (Kd.int .i64) 3 w' u.heap.size (fun _ => True) v0_ (oth X.length 0 (rising X)) ∧ Below u.heap.size u w' := fun u A c h1 h2 =>
    lis_Others.calls _ A c X _ u h1 h2 (Pure.others_at X (by omega) _ (Nat.le_refl _))
  have c11 : ∀ (u : World) (A : Option Addr) (c : Nat), Kd.C (Kd.int .i64) u A X.length X → X.length ≤ c → Calls Try.prog 11 #[.slice A X.length c] u fun e w' => ∃ v0_ : Value, e = .returned (v0_) ∧ Kd.R (Kd.int .i64) 3 w' u.heap.size (fun _ => True) v0_ (oth X.length 0 (rising X)) ∧ Below u.heap.size u w' := fun u A c h1 h2 => by
    obtain ⟨k, hk⟩ := Pure.refo_at X (by omega)
    exact topiaryref16_Others.calls k A c X _ u h1 h2 hk
  have c8 : ∀ (y : List Int) (u : World) (A A' : Option Addr) (c c' : Nat), y.length ≤ 1000 → Kd.C (Kd.int .i64) u A y.length y → y.length ≤ c → Kd.C (Kd.int .i64) u A' y.length y → y.length ≤ c' → Calls Try.prog 8 #[.slice A y.length c, .slice A' y.length c'] u fun e w' => e = .returned (.bool true) ∧ Below u.heap.size u w' := fun y u A A' c c' hy h1 h2 h3 h4 => by
    have h := topiaryref02_Same.calls (y.length + 1) A c y A' c' y _ u h1 h2 h3 h4 (Pure.same_at y y (by omega) _ (Nat.le_refl _))
    rw [decide_eq_true (rfl : y = y)] at h
    refine h.mono ?_
    rintro e w' ⟨he, ⟨nd, rfl⟩⟩
    exact ⟨he, pw_below_drewN (Below.refl _ _) nd⟩
  have c12 : ∀ u : World, Calls Try.prog 12 #[] u fun e w' => e = .returned (.bool true) ∧ Below u.heap.size u w' := fun u => topiarylaw16_awake.calls 4 true u (Pure.awake_at 4 (Nat.le_refl _))
  have hrl := rising_length X
  have hrn : (rising X).length ≤ 1000 := by have := need_len X; omega
  have hon : (oth X.length 0 (rising X)).length ≤ 1000 := by have := Pure.oth_short X.length 0 (rising X); omega
  have e1 : ((need X : Int) == ((rising X).length : Int)) = true := by rw [beq_iff_eq, hrl]
  clear hrl
  generalize rising X = r at *
  generalize oth X.length 0 r = o at *
  have HB := Aside0.mk (Below.refl w.heap.size w)
  go_enter Try.func3, Try.ntmps3
  go_wp2_with (fail)
  refine (c5 _).mono ?_
  rintro e w0 ⟨rfl, rfl⟩
  have HX0 := Aside0.mk HX.out
  go_wp2_with (first | ((with_reducible refine gate_dst (N := 8) rfl ?_); refine Kd.R_lit (Kd.int .i64) _ 3 ?hg (N := 8) ?hd (xs := ([] : List Int)) (inner := []) (ok := fun _ => True) (okp := fun _ => True) ?hr ?hp (fun _ hk => hk) trivial (Below.refl _ _) (Nat.le_refl _) (by simp) ?_; (case hd => rfl); (case hg => rfl); (case hr => first | (go_simp; done) | (go_simp; rfl)); (case hp => exact (Reps.none _ _)); intro v1 w1 ho hb hg_ hnew_; clear hg_ hnew_; replace HX := Aside0.mk (Kd.C_below HX.out hb); replace HB := Aside0.mk (HB.out.trans (hb.mono HB.out.size)); have HE := Aside0.mk ho; clear ho hb) | ((with_reducible refine gate_builtin (b := .append) (xs := #[.tmp 8, .tmp 9]) rfl ?_); at_builtin; refine Kd.R_append_rows (Kd.int .i64) (w0 := w0) w0.heap.size rfl (.tmp 8) (.tmp 9) 22 3 (.int .i64 0) 8 rfl Try.underlying22 info3 rfl (by decide) (by omega) v1 ([] : List Int) X _ _ _ (fun _ => True) (fun _ => False) rfl rfl ?aO ?aR (fun _ _ h => h) (fun _ h => h.elim) ?aF ?aB ?aS ?aL ?_; (case aR => exact HX.out); (case aB => exact HB.out); (case aF => exact (fun _ _ => trivial)); (case aO => exact HE.out); (case aS => exact HB.out.size); (case aL => simp; omega); intro v2 w2 ho hb hg hat; have HG := Aside0.mk ho; clear HX HB; have HX := Aside0.mk (Kd.C_below HX0.out hb); have HB := Aside0.mk hb; clear ho hb hg hat HE))
  obtain ⟨A2, n2, rfl⟩ := Kd.R_slice HG.out
  have HG2 := Aside0.mk (Kd.R_reads' HG.out).2.2
  have HG2c := Aside0.mk (Kd.R_reads' HG.out).2.1
  clear HG
  go_wp2_with (fail)
  refine (c6 _ _ _ HX.out hxc).mono ?_
  rintro e w3 ⟨v3, rfl, ho, hb⟩
  obtain ⟨A3, n3, rfl⟩ := Kd.R_slice ho
  replace HX := Aside0.mk (Kd.C_below HX.out hb)
  replace HG2 := Aside0.mk (Kd.C_below HG2.out hb)
  replace HB := Aside0.mk (HB.out.trans (hb.mono HB.out.size))
  have HW := Aside0.mk (Kd.R_reads' ho).2.2
  have HWc := Aside0.mk (Kd.R_reads' ho).2.1
  clear ho hb
  go_wp2_with (fail)
  refine (c7 _ _ _ HG2.out HG2c.out).mono ?_
  rintro e w4 ⟨v4, rfl, ho, hb⟩
  obtain ⟨A4, n4, rfl⟩ := Kd.R_slice ho
  replace HX := Aside0.mk (Kd.C_below HX.out hb)
  replace HG2 := Aside0.mk (Kd.C_below HG2.out hb)
  replace HW := Aside0.mk (Kd.C_below HW.out hb)
  replace HB := Aside0.mk (HB.out.trans (hb.mono HB.out.size))
  have HV := Aside0.mk (Kd.R_reads' ho).2.2
  have HVc := Aside0.mk (Kd.R_reads' ho).2.1
  clear ho hb
  go_wp2_with (fail)
  refine (c8 r _ _ _ _ _ hrn HV.out HVc.out HW.out HWc.out).mono ?_
  rintro e w5 ⟨rfl, hb⟩
  replace HX := Aside0.mk (Kd.C_below HX.out hb)
  replace HG2 := Aside0.mk (Kd.C_below HG2.out hb)
  replace HW := Aside0.mk (Kd.C_below HW.out hb)
  replace HV := Aside0.mk (Kd.C_below HV.out hb)
  replace HB := Aside0.mk (HB.out.trans (hb.mono HB.out.size))
  clear hb
  go_wp2_with (fail)
  refine (c9 _ _ _ HG2.out HG2c.out).mono ?_
  rintro e w6 ⟨rfl, hb⟩
  replace HX := Aside0.mk (Kd.C_below HX.out hb)
  replace HG2 := Aside0.mk (Kd.C_below HG2.out hb)
  replace HW := Aside0.mk (Kd.C_below HW.out hb)
  replace HV := Aside0.mk (Kd.C_below HV.out hb)
  replace HB := Aside0.mk (HB.out.trans (hb.mono HB.out.size))
  clear hb
  go_wp2_with (fail)
  refine (c10 _ _ _ HG2.out HG2c.out).mono ?_
  rintro e w7 ⟨v7, rfl, ho, hb⟩
  obtain ⟨A7, n7, rfl⟩ := Kd.R_slice ho
  replace HX := Aside0.mk (Kd.C_below HX.out hb)
  replace HG2 := Aside0.mk (Kd.C_below HG2.out hb)
  replace HW := Aside0.mk (Kd.C_below HW.out hb)
  replace HV := Aside0.mk (Kd.C_below HV.out hb)
  replace HB := Aside0.mk (HB.out.trans (hb.mono HB.out.size))
  have HO := Aside0.mk (Kd.R_reads' ho).2.2
  have HOc := Aside0.mk (Kd.R_reads' ho).2.1
  clear ho hb
  go_wp2_with (fail)
  refine (c11 _ _ _ HX.out hxc).mono ?_
  rintro e w8 ⟨v8, rfl, ho, hb⟩
  obtain ⟨A8, n8, rfl⟩ := Kd.R_slice ho
  replace HX := Aside0.mk (Kd.C_below HX.out hb)
  replace HG2 := Aside0.mk (Kd.C_below HG2.out hb)
  replace HW := Aside0.mk (Kd.C_below HW.out hb)
  replace HV := Aside0.mk (Kd.C_below HV.out hb)
  replace HO := Aside0.mk (Kd.C_below HO.out hb)
  replace HB := Aside0.mk (HB.out.trans (hb.mono HB.out.size))
  have HP := Aside0.mk (Kd.R_reads' ho).2.2
  have HPc := Aside0.mk (Kd.R_reads' ho).2.1
  clear ho hb
  go_wp2_with (fail)
  refine (c8 o _ _ _ _ _ hon HO.out HOc.out HP.out HPc.out).mono ?_
  rintro e w9 ⟨rfl, hb⟩
  replace HX := Aside0.mk (Kd.C_below HX.out hb)
  replace HG2 := Aside0.mk (Kd.C_below HG2.out hb)
  replace HW := Aside0.mk (Kd.C_below HW.out hb)
  replace HV := Aside0.mk (Kd.C_below HV.out hb)
  replace HO := Aside0.mk (Kd.C_below HO.out hb)
  replace HP := Aside0.mk (Kd.C_below HP.out hb)
  replace HB := Aside0.mk (HB.out.trans (hb.mono HB.out.size))
  clear hb
  go_wp2_with (fail)
  refine (c8 X _ _ _ _ _ (by omega) HG2.out HG2c.out HX.out hxc).mono ?_
  rintro e w10 ⟨rfl, hb⟩
  replace HX := Aside0.mk (Kd.C_below HX.out hb)
  replace HG2 := Aside0.mk (Kd.C_below HG2.out hb)
  replace HW := Aside0.mk (Kd.C_below HW.out hb)
  replace HV := Aside0.mk (Kd.C_below HV.out hb)
  replace HO := Aside0.mk (Kd.C_below HO.out hb)
  replace HP := Aside0.mk (Kd.C_below HP.out hb)
  replace HB := Aside0.mk (HB.out.trans (hb.mono HB.out.size))
  clear hb
  go_wp2_with (fail)
  refine (c12 _).mono ?_
  rintro e w11 ⟨rfl, hb⟩
  replace HX := Aside0.mk (Kd.C_below HX.out hb)
  replace HG2 := Aside0.mk (Kd.C_below HG2.out hb)
  replace HW := Aside0.mk (Kd.C_below HW.out hb)
  replace HV := Aside0.mk (Kd.C_below HV.out hb)
  replace HO := Aside0.mk (Kd.C_below HO.out hb)
  replace HP := Aside0.mk (Kd.C_below HP.out hb)
  replace HB := Aside0.mk (HB.out.trans (hb.mono HB.out.size))
  clear hb
  go_wp2
  go_ret
  exact ⟨rfl, HB.out⟩
end Go.Proofs.Ytnifikpldibbdab.PLis
