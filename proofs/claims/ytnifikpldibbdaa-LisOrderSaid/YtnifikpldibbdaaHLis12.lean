/- The contract of LisOrder. -/
import Derived.Test.YtnifikpldibbdaaLisRanks
import Derived.WalkSpells
import Derived.IntWalk
namespace Go.Proofs.Ytnifikpldibbdaa.PLis
open Go.RowKit Go.Proofs.YtnifikpldibbdaaW.PrintWords Go.Proofs.YtnifikpldibbdaaW.PrintLast Go.Proofs.YtnifikpldibbdaaW.PrintMore
attribute [local go_sem] max2_int min2_int max_two min_two max_three min_three max_four min_four   -- for this text's walks alone
set_option linter.unusedVariables false
set_option linter.unusedSimpArgs false



open LisPlain
set_option maxHeartbeats 8000000 in
set_option maxRecDepth 100000 in
theorem order_calls (A0 : Option Addr) (c0 : Nat) (l0 : List Int) (w : World) (hr0 : Kd.C (Kd.int .i64) w A0 l0.length l0) (hc0 : l0.length ≤ c0) :
    Calls Try.prog 12 #[.slice A0 l0.length c0] w fun e w' => e = .returned (.bool true) ∧ Below w.heap.size w w' := by
  by_cases hbig : (l0.length : Int) > 60
  · have hx : (l0.take 60).length = 60 := by rw [List.length_take]; omega
    have e1 : decide ((60 : Int) < (l0.length : Int)) = true := decide_eq_true hbig
    have e2 : decide ((l0.length : Int) > 60) = true := decide_eq_true hbig
    have e3 : ((60 : Int) ≤ (c0 : Int)) = True := eq_true (by omega)
    have e4 : (60 ≤ c0) = True := eq_true (by omega)
    have HCx : Aside0 (Kd.C (Kd.int .i64) w A0 (60) (l0.take 60)) := ⟨by have h := Kd.C_take (m := 60) hr0 (by omega); rw [hx] at h; exact h⟩
    have c27 : ∀ u, Kd.C (Kd.int .i64) u A0 (60) (l0.take 60) → Calls Try.prog 27 #[.slice A0 (60) c0] u fun e w' => ∃ v0_ : Value, e = .returned (v0_) ∧ Kd.R (Kd.int .i64) 3 w' u.heap.size (fun _ => True) v0_ (rising (l0.take 60)) ∧ Below u.heap.size u w' := fun u hu => by
      have h := lis_Rising.calls 0 A0 c0 (l0.take 60) (rising (l0.take 60)) u (by rw [hx]; exact hu) (by rw [hx]; omega) (Pure.rising_at 0 (l0.take 60) (by rw [hx]; omega))
      rw [hx] at h
      exact h
    have c30 : ∀ u, Kd.C (Kd.int .i64) u A0 (60) (l0.take 60) → Calls Try.prog 30 #[.slice A0 (60) c0] u fun e w' => ∃ v0_ : Value, e = .returned (v0_) ∧ Kd.R (Kd.int .i64) 3 w' u.heap.size (fun _ => True) v0_ ((l0.take 60).map (rk (l0.take 60))) ∧ Below u.heap.size u w' := fun u hu => by
      obtain ⟨k, hk⟩ := Pure.ranks_at (l0.take 60) (by rw [hx]; omega)
      have h := topiarylaw16_ranks.calls k A0 c0 (l0.take 60) _ u (by rw [hx]; exact hu) (by rw [hx]; omega) hk
      rw [hx] at h
      exact h
    have hrn : (rising (l0.take 60)).length ≤ 1000 := by rw [rising_length]; have := need_len (l0.take 60); rw [hx] at this; omega
    have hmn : ((l0.take 60).map (rk (l0.take 60))).length ≤ 1000 := by rw [List.length_map, hx]; omega
    have hrk := rising_rk (l0.take 60)
    generalize (l0.take 60).map (rk (l0.take 60)) = m at *
    generalize rising (l0.take 60) = r at *
    have c27b : ∀ (u : World) (A : Option Addr) (c : Nat), Kd.C (Kd.int .i64) u A m.length m → m.length ≤ c → Calls Try.prog 27 #[.slice A m.length c] u fun e w' => ∃ v0_ : Value, e = .returned (v0_) ∧ Kd.R (Kd.int .i64) 3 w' u.heap.size (fun _ => True) v0_ r ∧ Below u.heap.size u w' := fun u A c hu hc => by
      have h := lis_Rising.calls 0 A c m (rising m) u hu hc (Pure.rising_at 0 m (by omega))
      rw [hrk] at h
      exact h
    have c29 : ∀ (u : World) (A A' : Option Addr) (c c' : Nat), Kd.C (Kd.int .i64) u A r.length r → r.length ≤ c → Kd.C (Kd.int .i64) u A' r.length r → r.length ≤ c' → Calls Try.prog 29 #[.slice A r.length c, .slice A' r.length c'] u fun e w' => e = .returned (.bool true) ∧ Drawn0 u w' := fun u A A' c c' h1 h2 h3 h4 => by
      have h := topiaryref02_Same.calls (r.length + 1) A c r A' c' r _ u h1 h2 h3 h4 (Pure.same_at r r (by omega) _ (Nat.le_refl _))
      rw [decide_eq_true (rfl : r = r)] at h
      exact h
    have c26 : ∀ u : World, Calls Try.prog 26 #[] u fun e w' => e = .returned (.bool true) ∧ Below u.heap.size u w' := fun u => topiarylaw16_awake.calls 4 true u (Pure.awake_at 4 (Nat.le_refl _))
    have HB := Aside0.mk (Below.refl w.heap.size w)
    go_enter Try.func12, Try.ntmps12
    go_wp2_with (fail)
    refine (c27 _ HCx.out).mono ?_
    rintro e w1 ⟨v1, rfl, ho1, hb1⟩
    obtain ⟨A1, n1, rfl⟩ := Kd.R_slice ho1
    have H1 := Aside0.mk (Kd.R_reads' ho1).2
    have B1 := Aside0.mk hb1
    clear ho1 hb1
    go_wp2_with (fail)
    refine (c30 _ (Kd.C_below HCx.out B1.out)).mono ?_
    rintro e w2 ⟨v2, rfl, ho2, hb2⟩
    obtain ⟨A2, n2, rfl⟩ := Kd.R_slice ho2
    have H2 := Aside0.mk (Kd.R_reads' ho2).2
    have B2 := Aside0.mk hb2
    clear ho2 hb2
    go_wp2_with (fail)
    refine (c27b _ _ _ H2.out.2 H2.out.1).mono ?_
    rintro e w3 ⟨v3, rfl, ho3, hb3⟩
    obtain ⟨A3, n3, rfl⟩ := Kd.R_slice ho3
    have H3 := Aside0.mk (Kd.R_reads' ho3).2
    have B3 := Aside0.mk hb3
    clear ho3 hb3
    go_wp2_with (fail)
    refine (c29 _ _ _ _ _ (Kd.C_below (Kd.C_below H1.out.2 B2.out) B3.out) H1.out.1 H3.out.2 H3.out.1).mono ?_
    rintro e w4 ⟨rfl, ⟨nd, rfl⟩⟩
    go_wp2_with (fail)
    refine (c26 _).mono ?_
    rintro e w5 ⟨rfl, hb5⟩
    have B5 := Aside0.mk hb5
    clear hb5
    go_wp2
    go_ret
    refine ⟨rfl, ?_⟩
    have h12 := B1.out.trans (B2.out.mono B1.out.size)
    have h13 := h12.trans (B3.out.mono h12.size)
    have h14 := pw_below_drewN h13 nd
    exact h14.trans (B5.out.mono h14.size)
  · have e1 : decide ((60 : Int) < (l0.length : Int)) = false := decide_eq_false hbig
    have e2 : decide ((l0.length : Int) > 60) = false := decide_eq_false hbig
    have HCx : Aside0 (Kd.C (Kd.int .i64) w A0 (l0.length) (l0)) := ⟨hr0⟩
    have c27 : ∀ u, Kd.C (Kd.int .i64) u A0 (l0.length) (l0) → Calls Try.prog 27 #[.slice A0 (l0.length) c0] u fun e w' => ∃ v0_ : Value, e = .returned (v0_) ∧ Kd.R (Kd.int .i64) 3 w' u.heap.size (fun _ => True) v0_ (rising (l0)) ∧ Below u.heap.size u w' := fun u hu => by
      have h := lis_Rising.calls 0 A0 c0 (l0) (rising (l0)) u (by rw [show (l0).length = l0.length from rfl]; exact hu) (by rw [show (l0).length = l0.length from rfl]; omega) (Pure.rising_at 0 (l0) (by rw [show (l0).length = l0.length from rfl]; omega))
      rw [show (l0).length = l0.length from rfl] at h
      exact h
    have c30 : ∀ u, Kd.C (Kd.int .i64) u A0 (l0.length) (l0) → Calls Try.prog 30 #[.slice A0 (l0.length) c0] u fun e w' => ∃ v0_ : Value, e = .returned (v0_) ∧ Kd.R (Kd.int .i64) 3 w' u.heap.size (fun _ => True) v0_ ((l0).map (rk (l0))) ∧ Below u.heap.size u w' := fun u hu => by
      obtain ⟨k, hk⟩ := Pure.ranks_at (l0) (by rw [show (l0).length = l0.length from rfl]; omega)
      have h := topiarylaw16_ranks.calls k A0 c0 (l0) _ u (by rw [show (l0).length = l0.length from rfl]; exact hu) (by rw [show (l0).length = l0.length from rfl]; omega) hk
      rw [show (l0).length = l0.length from rfl] at h
      exact h
    have hrn : (rising (l0)).length ≤ 1000 := by rw [rising_length]; have := need_len (l0); rw [show (l0).length = l0.length from rfl] at this; omega
    have hmn : ((l0).map (rk (l0))).length ≤ 1000 := by rw [List.length_map, show (l0).length = l0.length from rfl]; omega
    have hrk := rising_rk (l0)
    generalize (l0).map (rk (l0)) = m at *
    generalize rising (l0) = r at *
    have c27b : ∀ (u : World) (A : Option Addr) (c : Nat), Kd.C (Kd.int .i64) u A m.length m → m.length ≤ c → Calls Try.prog 27 #[.slice A m.length c] u fun e w' => ∃ v0_ : Value, e = .returned (v0_) ∧ Kd.R (Kd.int .i64) 3 w' u.heap.size (fun _ => True) v0_ r ∧ Below u.heap.size u w' := fun u A c hu hc => by
      have h := lis_Rising.calls 0 A c m (rising m) u hu hc (Pure.rising_at 0 m (by omega))
      rw [hrk] at h
      exact h
    have c29 : ∀ (u : World) (A A' : Option Addr) (c c' : Nat), Kd.C (Kd.int .i64) u A r.length r → r.length ≤ c → Kd.C (Kd.int .i64) u A' r.length r → r.length ≤ c' → Calls Try.prog 29 #[.slice A r.length c, .slice A' r.length c'] u fun e w' => e = .returned (.bool true) ∧ Drawn0 u w' := fun u A A' c c' h1 h2 h3 h4 => by
      have h := topiaryref02_Same.calls (r.length + 1) A c r A' c' r _ u h1 h2 h3 h4 (Pure.same_at r r (by omega) _ (Nat.le_refl _))
      rw [decide_eq_true (rfl : r = r)] at h
      exact h
    have c26 : ∀ u : World, Calls Try.prog 26 #[] u fun e w' => e = .returned (.bool true) ∧ Below u.heap.size u w' := fun u => topiarylaw16_awake.calls 4 true u (Pure.awake_at 4 (Nat.le_refl _))
    have HB := Aside0.mk (Below.refl w.heap.size w)
    go_enter Try.func12, Try.ntmps12
    go_wp2_with (fail)
    refine (c27 _ HCx.out).mono ?_
    rintro e w1 ⟨v1, rfl, ho1, hb1⟩
    obtain ⟨A1, n1, rfl⟩ := Kd.R_slice ho1
    have H1 := Aside0.mk (Kd.R_reads' ho1).2
    have B1 := Aside0.mk hb1
    clear ho1 hb1
    go_wp2_with (fail)
    refine (c30 _ (Kd.C_below HCx.out B1.out)).mono ?_
    rintro e w2 ⟨v2, rfl, ho2, hb2⟩
    obtain ⟨A2, n2, rfl⟩ := Kd.R_slice ho2
    have H2 := Aside0.mk (Kd.R_reads' ho2).2
    have B2 := Aside0.mk hb2
    clear ho2 hb2
    go_wp2_with (fail)
    refine (c27b _ _ _ H2.out.2 H2.out.1).mono ?_
    rintro e w3 ⟨v3, rfl, ho3, hb3⟩
    obtain ⟨A3, n3, rfl⟩ := Kd.R_slice ho3
    have H3 := Aside0.mk (Kd.R_reads' ho3).2
    have B3 := Aside0.mk hb3
    clear ho3 hb3
    go_wp2_with (fail)
    refine (c29 _ _ _ _ _ (Kd.C_below (Kd.C_below H1.out.2 B2.out) B3.out) H1.out.1 H3.out.2 H3.out.1).mono ?_
    rintro e w4 ⟨rfl, ⟨nd, rfl⟩⟩
    go_wp2_with (fail)
    refine (c26 _).mono ?_
    rintro e w5 ⟨rfl, hb5⟩
    have B5 := Aside0.mk hb5
    clear hb5
    go_wp2
    go_ret
    refine ⟨rfl, ?_⟩
    have h12 := B1.out.trans (B2.out.mono B1.out.size)
    have h13 := h12.trans (B3.out.mono h12.size)
    have h14 := pw_below_drewN h13 nd
    exact h14.trans (B5.out.mono h14.size)
end Go.Proofs.Ytnifikpldibbdaa.PLis
