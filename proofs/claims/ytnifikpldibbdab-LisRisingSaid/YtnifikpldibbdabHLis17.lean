/- The contracts of sort.Search and of the closure that lis.lengths hands to it. -/
import Derived.Test.YtnifikpldibbdabPLisx0
import Derived.WalkSpells
import Derived.IntWalk
namespace Go.Proofs.Ytnifikpldibbdab.PLis
open Go.RowKit Go.Proofs.YtnifikpldibbdabW.PrintWords Go.Proofs.YtnifikpldibbdabW.PrintLast Go.Proofs.YtnifikpldibbdabW.PrintMore
attribute [local go_sem] max2_int min2_int max_two min_two max_three min_three max_four min_four   -- for this text's walks alone
set_option linter.unusedVariables false
set_option linter.unusedSimpArgs false



def clos.T1 : Bool × List (List Nat × List Nat) := (true, [([], []), ([], []), ([0, 1], [0, 1]), ([2], [2]), ([], []), ([], []), ([4, 5], [4, 5]), ([6], [6]), ([3, 7], [3, 7]), ([8, 0, 1, 2, 3, 4, 5, 6, 7, 8], [8])])
def clos.B1 : List Nat := [0, 0, 3, 7, 0, 0, 48, 112, 255, 511]
theorem clos.tab1 : rtab .any (opsOf Try.f17 1) = clos.T1 := by kernel_rfl
theorem clos.bits1 : waitsOk clos.T1.2 clos.B1 = true := by kernel_rfl
set_option maxHeartbeats 4000000 in
set_option maxRecDepth 100000 in
theorem clos_calls (W : World) (bh bl bi : Nat) (ah al : Addr) (nh ch nl cl : Nat) (i j : Nat) (h x : Int)
    (hH : W.cell? ⟨bh, 0, none⟩ = some (.slice (some ah) nh ch)) (hL : W.cell? ⟨bl, 0, none⟩ = some (.slice (some al) nl cl)) (hI : W.cell? ⟨bi, 0, none⟩ = some (.int .i64 (i : Int)))
    (hE : W.cell? (ah.add j) = some (.int .i64 h)) (hX : W.cell? (al.add i) = some (.int .i64 x)) (hj : j < nh) (hi : i < nl) :
    Calls Try.prog 17 #[.int .i64 (j : Int), .pointer (some ⟨bh, 0, none⟩), .pointer (some ⟨bl, 0, none⟩), .pointer (some ⟨bi, 0, none⟩)] W fun e w' => e = .returned (.bool (decide (h ≤ x))) ∧ Drawn0 W w' := by
  have HS := Aside0.mk (And.intro hH (And.intro hL (And.intro hI (And.intro hE hX))))
  clear hH hL hI hE hX
  have b1 : (0 ≤ (j : Int)) = True := eq_true (by omega)
  have b2 : ((j : Int) < (nh : Int)) = True := eq_true (by omega)
  have b3 : (0 ≤ (i : Int)) = True := eq_true (by omega)
  have b4 : ((i : Int) < (nl : Int)) = True := eq_true (by omega)
  have b5 : (j < nh) = True := eq_true hj
  have b6 : (i < nl) = True := eq_true hi
  clear hj hi
  go_enter Try.func17, Try.ntmps17
  go_wp2
  refine start_ (n := 10) (S := (fun w' => w'.cell? ⟨bh, 0, none⟩ = some (.slice (some ah) nh ch) ∧ w'.cell? ⟨bl, 0, none⟩ = some (.slice (some al) nl cl) ∧ w'.cell? ⟨bi, 0, none⟩ = some (.int .i64 (i : Int)) ∧ w'.cell? (ah.add j) = some (.int .i64 h) ∧ w'.cell? (al.add i) = some (.int .i64 x))) (ds := []) #[false, false, false, false, false, false, false, false, false, false] (by kernel_rfl) rfl rfl (HS.out) (fun hHeld => ?_)
  refine with_tabW clos.tab1 clos.bits1 (fun HT_ HW_ => ?_)
  refine pure_ (i := 1) (N := (some 7)) (v := ?_) (a' := ?_) #[false, true, false, false, false, false, false, false, false, false] rfl rfl (any_of HT_.out (by kernel_rfl)) (fun _ _ _ h => h) (Or.inl ⟨by rfl, ?_⟩) ?_ ?_
  rotate_left
  · intro w'
    go_simp
    with_reducible rfl
  rotate_left
  · simp only [Act.put, List.setIfInBounds_toArray, List.set_cons_zero, List.set_cons_succ, i64_w, i32_w]
    rfl
  refine take_ (i := 0) (N := (some 6)) (v := ?_) (a' := ?_) #[true, true, false, false, false, false, false, false, false, false] rfl rfl (take_ofW HT_.out HW_.out (by kernel_rfl)) (fun _ _ _ h => h) (Or.inl ⟨by rfl, ?_⟩) hHeld ?_ ?_
  rotate_left
  · rintro w' ⟨s0, s1, s2, s3, s4⟩
    go_simp
    with_reducible rfl
  rotate_left
  · simp only [Act.put, List.setIfInBounds_toArray, List.set_cons_zero, List.set_cons_succ, i64_w, i32_w]
    rfl
  refine pure_ (i := 2) (N := (some 8)) (v := ?_) (a' := ?_) #[true, true, true, false, false, false, false, false, false, false] rfl rfl (any_of HT_.out (by kernel_rfl)) (fun _ _ _ h => h) (Or.inl ⟨by rfl, ?_⟩) ?_ ?_
  rotate_left
  · intro w'
    go_simp
    with_reducible rfl
  rotate_left
  · simp only [Act.put, List.setIfInBounds_toArray, List.set_cons_zero, List.set_cons_succ, i64_w, i32_w]
    rfl
  refine take_ (i := 3) (N := (some 9)) (v := ?_) (a' := ?_) #[true, true, true, true, false, false, false, false, false, false] rfl rfl (take_ofW HT_.out HW_.out (by kernel_rfl)) (fun _ _ _ h => h) (Or.inl ⟨by rfl, ?_⟩) hHeld ?_ ?_
  rotate_left
  · rintro w' ⟨s0, s1, s2, s3, s4⟩
    go_simp
    with_reducible rfl
  rotate_left
  · simp only [Act.put, List.setIfInBounds_toArray, List.set_cons_zero, List.set_cons_succ, i64_w, i32_w]
    rfl
  refine take_ (i := 4) (N := (some 10)) (v := ?_) (a' := ?_) #[true, true, true, true, true, false, false, false, false, false] rfl rfl (take_ofW HT_.out HW_.out (by kernel_rfl)) (fun _ _ _ h => h) (Or.inl ⟨by rfl, ?_⟩) hHeld ?_ ?_
  rotate_left
  · rintro w' ⟨s0, s1, s2, s3, s4⟩
    go_simp
    with_reducible rfl
  rotate_left
  · simp only [Act.put, List.setIfInBounds_toArray, List.set_cons_zero, List.set_cons_succ, i64_w, i32_w]
    rfl
  refine take_ (i := 5) (N := (some 11)) (v := ?_) (a' := ?_) #[true, true, true, true, true, true, false, false, false, false] rfl rfl (take_ofW HT_.out HW_.out (by kernel_rfl)) (fun _ _ _ h => h) (Or.inl ⟨by rfl, ?_⟩) hHeld ?_ ?_
  rotate_left
  · rintro w' ⟨s0, s1, s2, s3, s4⟩
    go_simp
    with_reducible rfl
  rotate_left
  · simp only [Act.put, List.setIfInBounds_toArray, List.set_cons_zero, List.set_cons_succ, i64_w, i32_w]
    rfl
  refine pure_ (i := 6) (N := (some 12)) (v := ?_) (a' := ?_) #[true, true, true, true, true, true, true, false, false, false] rfl rfl (any_of HT_.out (by kernel_rfl)) (fun _ _ _ h => h) (Or.inl ⟨by rfl, ?_⟩) ?_ ?_
  rotate_left
  · intro w'
    go_simp
    with_reducible rfl
  rotate_left
  · simp only [Act.put, List.setIfInBounds_toArray, List.set_cons_zero, List.set_cons_succ, i64_w, i32_w]
    rfl
  refine take_ (i := 7) (N := (some 13)) (v := ?_) (a' := ?_) #[true, true, true, true, true, true, true, true, false, false] rfl rfl (take_ofW HT_.out HW_.out (by kernel_rfl)) (fun _ _ _ h => h) (Or.inl ⟨by rfl, ?_⟩) hHeld ?_ ?_
  rotate_left
  · rintro w' ⟨s0, s1, s2, s3, s4⟩
    go_simp
    with_reducible rfl
  rotate_left
  · simp only [Act.put, List.setIfInBounds_toArray, List.set_cons_zero, List.set_cons_succ, i64_w, i32_w]
    rfl
  refine pure_ (i := 8) (N := (some 14)) (v := ?_) (a' := ?_) #[true, true, true, true, true, true, true, true, true, false] rfl rfl (any_of HT_.out (by kernel_rfl)) (fun _ _ _ h => h) (Or.inl ⟨by rfl, ?_⟩) ?_ ?_
  rotate_left
  · intro w'
    go_simp
    with_reducible rfl
  rotate_left
  · simp only [Act.put, List.setIfInBounds_toArray, List.set_cons_zero, List.set_cons_succ, i64_w, i32_w]
    rfl
  refine pure_ (i := 9) (N := (some 5)) (v := ?_) (a' := ?_) #[true, true, true, true, true, true, true, true, true, true] rfl rfl (any_of HT_.out (by kernel_rfl)) (fun _ _ _ h => h) (Or.inl ⟨by rfl, ?_⟩) ?_ ?_
  rotate_left
  · intro w'
    go_simp
    with_reducible rfl
  rotate_left
  · simp only [Act.put, List.setIfInBounds_toArray, List.set_cons_zero, List.set_cons_succ, i64_w, i32_w]
    rfl
  refine done_ (done_of HT_.out (by kernel_rfl)) ?_
  go_wp2
  go_ret
  exact ⟨rfl, by repeat (first | exact Drawn0.refl _ | apply Drawn0.step)⟩

theorem le_of_yes {p : Nat → Bool} {r h : Nat} (h1 : ∀ i, i < r → p i = false) (hb : p h = true) : r ≤ h := by
  rcases Nat.lt_or_ge h r with g | g
  · rw [h1 h g] at hb; cases hb
  · exact g
theorem lt_of_no {p : Nat → Bool} {r h n : Nat} (h2 : ∀ i, r ≤ i → i < n → p i = true) (hn : h < n) (hb : p h = false) : h + 1 ≤ r := by
  rcases Nat.lt_or_ge h r with g | g
  · exact g
  · rw [h2 h g hn] at hb; cases hb
set_option maxHeartbeats 4000000 in
set_option maxRecDepth 100000 in
/-- sort.Search over a closure that says 'no' below r and 'yes' from r on. -/
theorem search_calls (W : World) (n r : Nat) (caps : Array Value) (p : Nat → Bool) (hn : n ≤ 4611686018427387904) (hr : r ≤ n) (h1 : ∀ i, i < r → p i = false) (h2 : ∀ i, r ≤ i → i < n → p i = true)
    (hc : ∀ (m i : Nat), i < n → Calls Try.prog 17 (#[.int .i64 (i : Int)] ++ caps) (W.drewN m) fun e w' => e = .returned (.bool (p i)) ∧ Drawn0 (W.drewN m) w') :
    Calls Try.prog 16 #[.int .i64 (n : Int), .func (.func 17) #[] caps] W fun e w' => e = .returned (.int .i64 (r : Int)) ∧ Drawn0 W w' := by
  have H1 := Aside0.mk h1
  have H2 := Aside0.mk h2
  have HC := Aside0.mk hc
  clear h1 h2 hc
  go_enter Try.func16, Try.ntmps16
  go_wp2
  go_loopw [5, 6] (fun vi vj wr => ∃ (i j : Nat), vi = .int .i64 (i : Int) ∧ vj = .int .i64 (j : Int) ∧ i ≤ r ∧ r ≤ j ∧ j ≤ n ∧ Drawn0 W wr) (fun vi vj _ => (intOf vj).toNat - (intOf vi).toNat)
  case atStart => exact ⟨0, n, rfl, rfl, Nat.zero_le _, hr, Nat.le_refl _, Drawn0.refl _⟩
  case round =>
    obtain ⟨i, j, rfl, rfl, hi, hj, hjn, ⟨m, rfl⟩⟩ := hrel
    by_cases hlt : i < j
    · have hm : i ≤ (i + j) / 2 ∧ (i + j) / 2 < j := by omega
      obtain ⟨hm1, hm2⟩ := hm
      have hmn : (i + j) / 2 < n := by omega
      have hw1 : wrap64 ((i : Int) + (j : Int)) = (i : Int) + (j : Int) := by unfold wrap64; omega
      have hc := HC.out m ((i + j) / 2) hmn
      cases hb : p ((i + j) / 2) with
      | true =>
        rw [hb] at hc
        have HC2 := Aside0.mk hc
        have HBB := Aside0.mk hb
        clear hc hb
        go_wp2_with (fail)
        rw [show ((i : Int) + (j : Int)) / 2 = (((i + j) / 2 : Nat) : Int) from by omega]
        refine HC2.out.mono ?_
        rintro e w' ⟨rfl, ⟨nd, rfl⟩⟩
        have hb := HBB.out
        clear HC2 HBB
        go_wp2
        go_roundw
        case rel => exact ⟨i, (i + j) / 2, rfl, rfl, hi, le_of_yes H1.out hb, by omega, by repeat (first | exact Drawn0.refl _ | apply Drawn0.step)⟩
        case measure => simp [intOf]; omega
      | false =>
        rw [hb] at hc
        have HC2 := Aside0.mk hc
        have HBB := Aside0.mk hb
        clear hc hb
        go_wp2_with (fail)
        rw [show ((i : Int) + (j : Int)) / 2 = (((i + j) / 2 : Nat) : Int) from by omega]
        refine HC2.out.mono ?_
        rintro e w' ⟨rfl, ⟨nd, rfl⟩⟩
        have hb := HBB.out
        clear HC2 HBB
        go_wp2
        go_roundw
        case rel => exact ⟨(i + j) / 2 + 1, j, rfl, rfl, lt_of_no H2.out (by omega) hb, hj, hjn, by repeat (first | exact Drawn0.refl _ | apply Drawn0.step)⟩
        case measure => simp [intOf]; omega
    · have hir : i = r := by omega
      subst hir
      have hge : ¬ ((i : Int) < (j : Int)) := by omega
      go_wp2
      go_ret
      exact ⟨rfl, by repeat (first | exact Drawn0.refl _ | apply Drawn0.step)⟩
end Go.Proofs.Ytnifikpldibbdab.PLis
