/- What the statement's row needs of this session's texts, joined by program: part 7. -/
import Derived.Test.YtnopjjilpgekfaaQN5
namespace Go.Proofs.Ytnopjjilpgekfaa.PCa
open Go.RowKit Go.Proofs.YtnopjjilpgekfaaW.PrintWords Go.Proofs.YtnopjjilpgekfaaW.PrintLast Go.Proofs.YtnopjjilpgekfaaW.PrintMore
attribute [local go_sem] max2_int min2_int max_two min_two max_three min_three max_four min_four
set_option linter.unusedVariables false
set_option linter.unusedSimpArgs false
/-- Take of a nil buffer. -/
def TakeN (w : World) (base : Nat) (r : List S32 × Int) (e : Ending) (w' : World) : Prop := ∃ (O : Nat → Prop) (v' : Value), e = .returned (.tuple #[v', .int .i64 r.2]) ∧ Kd.S k32 32 w' base O v' r.1 ∧ (∀ k, O k → w.heap.size ≤ k) ∧ Below w.heap.size w w'
theorem TakeN.err {w w' : World} {base : Nat} {c : Int} (h : base ≤ w.heap.size) (hb : Below w.heap.size w w') : TakeN w base ([], c) (.returned (.tuple #[.slice none 0 0, .int .i64 c])) w' :=
 ⟨fun _ => False, .slice none 0 0, rfl, Kd.S_nil _ _ _ _ _, fun _ hk => hk.elim, hb⟩
set_option maxHeartbeats 8000000 in
set_option maxRecDepth 100000 in
theorem takeN_chk {w : World} {base : Nat} (hbn : base ≤ w.heap.size) (A0 : Option Addr) (c0 : Nat) (known : List Int) (hk : Kd.C (Kd.int .i64) w A0 known.length known) (hkc : known.length ≤ c0)
  (x : S32) (A3 : Option Addr) (c3 : Nat) (hc : chkC known ≠ 0) :
  Calls Try.prog 13 #[.pointer none, .slice A0 known.length c0, (.agg #[.int .i64 x.f0.f0, .int .i64 x.f0.f1, .int .i64 x.f1, (.slice A3 x.f2.length c3), .int .i64 x.f3, .int .i64 x.f4.f0, .int .i64 x.f4.f1, .int .i64 x.f5.f0, .int .i64 x.f5.f1, .int .i64 x.f6.f0, .int .i64 x.f6.f1, .string x.f7, .string x.f8])] w (TakeN w base ([], chkC known)) := by
 have HBN := Aside0.mk hbn
 have HK := Aside0.mk hk
 have HKC := Aside0.mk hkc
 have HCK := Aside0.mk (clock_Check_is known 66 (by decide))
 clear hk hkc hbn
 generalize chkC known = cc at *
 have e1 : (cc != 0) = true := by rw [bne_iff_ne]; exact hc
 clear hc
 go_enter Try.func13, Try.ntmps13
 go_wp2_with (first | ((with_reducible refine gate_dst (N := 5) rfl ?_); refine box_event ?hg (N := 5) ?hd (cs := #[.int .i64 x.f0.f0, .int .i64 x.f0.f1, .int .i64 x.f1, (.slice A3 x.f2.length c3), .int .i64 x.f3, .int .i64 x.f4.f0, .int .i64 x.f4.f1, .int .i64 x.f5.f0, .int .i64 x.f5.f1, .int .i64 x.f6.f0, .int .i64 x.f6.f1, .string x.f7, .string x.f8]) (t := 32) ?hr ?_; (case hd => rfl); (case hg => rfl); (case hr => first | (go_simp; done) | (go_simp; rfl)); intro gb hr_ w0 hbox hb; have HXgb := Aside0.mk hbox; have HBgb := Aside0.mk hb; have HNgb := Aside0.mk (Nat.le_of_eq hr_.symm); clear hbox hb hr_) | (go_at_call 33; (with_reducible refine (clock_Check.calls 66 A0 c0 known _ _ (Kd.C_below HK.out HBgb.out) HKC.out HCK.out).mono ?_); rintro e w1 ⟨rfl, ⟨nd, hnd⟩⟩; have HB1 := Aside0.mk (show Below w.heap.size w w1 by rw [hnd]; exact pw_below_drewN HBgb.out nd); have HX1 := Aside0.mk (show w1.heap[gb]? = some (.cells (chA x (.slice A3 x.f2.length c3)) 32 (0, 0)) by rw [hnd]; exact HXgb.out); clear hnd nd))
 go_ret2
 exact TakeN.err HBN.out HB1.out
set_option maxHeartbeats 8000000 in
set_option maxRecDepth 100000 in
theorem takeN_bad {w : World} {base : Nat} (hbn : base ≤ w.heap.size) (A0 : Option Addr) (c0 : Nat) (known : List Int) (hk : Kd.C (Kd.int .i64) w A0 known.length known) (hkc : known.length ≤ c0)
  (x : S32) (A3 : Option Addr) (c3 : Nat) (hx : Kd.C (Kd.int .i64) w A3 x.f2.length x.f2) (hx3 : x.f2.length ≤ c3) (hs : x.f7.size < 4611686018427387904) (hc : chkC known = 0) (hc2 : checkX x ≠ 0) :
  Calls Try.prog 13 #[.pointer none, .slice A0 known.length c0, (.agg #[.int .i64 x.f0.f0, .int .i64 x.f0.f1, .int .i64 x.f1, (.slice A3 x.f2.length c3), .int .i64 x.f3, .int .i64 x.f4.f0, .int .i64 x.f4.f1, .int .i64 x.f5.f0, .int .i64 x.f5.f1, .int .i64 x.f6.f0, .int .i64 x.f6.f1, .string x.f7, .string x.f8])] w (TakeN w base ([], checkX x)) := by
 have HBN := Aside0.mk hbn
 have HK := Aside0.mk hk
 have HKC := Aside0.mk hkc
 have HC3 := Aside0.mk hx
 have HL3 := Aside0.mk hx3
 have HCK := Aside0.mk (clock_Check_is known 66 (by decide))
 rw [hc] at HCK
 have HCE := Aside0.mk (change_Check_is (x.f7.size + 200) x.f0.f0 x.f0.f1 x.f1 x.f2 x.f3 x.f4.f0 x.f4.f1 x.f5.f0 x.f5.f1 x.f6.f0 x.f6.f1 x.f7 x.f8 hs (by omega) (by omega))
 rw [show checkC x.f0.f0 x.f0.f1 x.f1 x.f2 x.f3 x.f4.f0 x.f4.f1 x.f5.f0 x.f5.f1 x.f6.f0 x.f6.f1 x.f7 x.f8 = checkX x from rfl] at HCE
 clear hbn hk hkc hx hx3 hs hc
 generalize checkX x = cc at *
 have e1 : (cc != 0) = true := by rw [bne_iff_ne]; exact hc2
 clear hc2
 go_enter Try.func13, Try.ntmps13
 go_wp2_with (first | ((with_reducible refine gate_dst (N := 5) rfl ?_); refine box_event ?hg (N := 5) ?hd (cs := #[.int .i64 x.f0.f0, .int .i64 x.f0.f1, .int .i64 x.f1, (.slice A3 x.f2.length c3), .int .i64 x.f3, .int .i64 x.f4.f0, .int .i64 x.f4.f1, .int .i64 x.f5.f0, .int .i64 x.f5.f1, .int .i64 x.f6.f0, .int .i64 x.f6.f1, .string x.f7, .string x.f8]) (t := 32) ?hr ?_; (case hd => rfl); (case hg => rfl); (case hr => first | (go_simp; done) | (go_simp; rfl)); intro gb hr_ w0 hbox hb; have HXgb := Aside0.mk hbox; have HBgb := Aside0.mk hb; have HNgb := Aside0.mk (Nat.le_of_eq hr_.symm); clear hbox hb hr_) | (go_at_call 33; (with_reducible refine (clock_Check.calls 66 A0 c0 known _ _ (Kd.C_below HK.out HBgb.out) HKC.out HCK.out).mono ?_); rintro e w1 ⟨rfl, ⟨nd, hnd⟩⟩; have HB1 := Aside0.mk (show Below w.heap.size w w1 by rw [hnd]; exact pw_below_drewN HBgb.out nd); have HX1 := Aside0.mk (show w1.heap[gb]? = some (.cells (chA x (.slice A3 x.f2.length c3)) 32 (0, 0)) by rw [hnd]; exact HXgb.out); clear hnd nd) | ((with_reducible refine gate_dst (N := 17) rfl ?_); refine load32_ev rfl (N := 17) rfl x (.slice A3 x.f2.length c3) (p := .tmp 5) rfl (ad := ⟨gb, 0, none⟩) rfl (blk_cells HX1.out) ?_) | (go_at_call 34; (with_reducible refine (change_Check.calls (x.f7.size + 200) x.f0.f0 x.f0.f1 x.f1 A3 c3 x.f2 x.f3 x.f4.f0 x.f4.f1 x.f5.f0 x.f5.f1 x.f6.f0 x.f6.f1 x.f7 x.f8 _ _ (Kd.C_below HC3.out HB1.out) HL3.out HCE.out).mono ?_); rintro e w2 ⟨rfl, hb2⟩; have HB2 := Aside0.mk (HB1.out.trans (hb2.mono HB1.out.size)); have HX2 := Aside0.mk (blk_below HX1.out hb2); clear hb2))
 go_ret2
 exact TakeN.err HBN.out HB2.out
set_option maxHeartbeats 8000000 in
set_option maxRecDepth 100000 in
theorem takeN_within {w : World} {base : Nat} (hbn : base ≤ w.heap.size) (A0 : Option Addr) (c0 : Nat) (known : List Int) (hk : Kd.C (Kd.int .i64) w A0 known.length known) (hkc : known.length ≤ c0)
  (x : S32) (A3 : Option Addr) (c3 : Nat) (hx : Kd.C (Kd.int .i64) w A3 x.f2.length x.f2) (hx3 : x.f2.length ≤ c3) (hs : x.f7.size < 4611686018427387904) (hc : chkC known = 0) (hc2 : checkX x = 0) (hw : withinX known x = true) :
  Calls Try.prog 13 #[.pointer none, .slice A0 known.length c0, (.agg #[.int .i64 x.f0.f0, .int .i64 x.f0.f1, .int .i64 x.f1, (.slice A3 x.f2.length c3), .int .i64 x.f3, .int .i64 x.f4.f0, .int .i64 x.f4.f1, .int .i64 x.f5.f0, .int .i64 x.f5.f1, .int .i64 x.f6.f0, .int .i64 x.f6.f1, .string x.f7, .string x.f8])] w (TakeN w base ([], 5)) := by
 have HBN := Aside0.mk hbn
 have HK := Aside0.mk hk
 have HKC := Aside0.mk hkc
 have HC3 := Aside0.mk hx
 have HL3 := Aside0.mk hx3
 have HCK := Aside0.mk (clock_Check_is known 66 (by decide))
 rw [hc] at HCK
 have HCE := Aside0.mk (change_Check_is (x.f7.size + 200) x.f0.f0 x.f0.f1 x.f1 x.f2 x.f3 x.f4.f0 x.f4.f1 x.f5.f0 x.f5.f1 x.f6.f0 x.f6.f1 x.f7 x.f8 hs (by omega) (by omega))
 rw [show checkC x.f0.f0 x.f0.f1 x.f1 x.f2 x.f3 x.f4.f0 x.f4.f1 x.f5.f0 x.f5.f1 x.f6.f0 x.f6.f1 x.f7 x.f8 = checkX x from rfl, hc2] at HCE
 have HX64 := Aside0.mk (check_ok hc2)
 have HCH := Aside0.mk hc
 obtain ⟨at_, hat_⟩ : ∃ a, atC known x.f0.f1 = a := ⟨_, rfl⟩
 have HAT := Aside0.mk (clock_At_is known x.f0.f1)
 rw [hat_] at HAT
 have hwx : withinX known x = decide (x.f1 ≤ at_) := by unfold withinX; rw [hat_]
 clear hat_

 rw [hw] at hwx
 have d1 : decide (x.f1 ≤ at_) = true := hwx.symm
 clear hbn hk hkc hx hx3 hs hc hc2 hw hwx
 go_enter Try.func13, Try.ntmps13
 go_wp2_with (first | ((with_reducible refine gate_dst (N := 5) rfl ?_); refine box_event ?hg (N := 5) ?hd (cs := #[.int .i64 x.f0.f0, .int .i64 x.f0.f1, .int .i64 x.f1, (.slice A3 x.f2.length c3), .int .i64 x.f3, .int .i64 x.f4.f0, .int .i64 x.f4.f1, .int .i64 x.f5.f0, .int .i64 x.f5.f1, .int .i64 x.f6.f0, .int .i64 x.f6.f1, .string x.f7, .string x.f8]) (t := 32) ?hr ?_; (case hd => rfl); (case hg => rfl); (case hr => first | (go_simp; done) | (go_simp; rfl)); intro gb hr_ w0 hbox hb; have HXgb := Aside0.mk hbox; have HBgb := Aside0.mk hb; have HNgb := Aside0.mk (Nat.le_of_eq hr_.symm); clear hbox hb hr_) | (go_at_call 33; (with_reducible refine (clock_Check.calls 66 A0 c0 known _ _ (Kd.C_below HK.out HBgb.out) HKC.out HCK.out).mono ?_); rintro e w1 ⟨rfl, ⟨nd, hnd⟩⟩; have HB1 := Aside0.mk (show Below w.heap.size w w1 by rw [hnd]; exact pw_below_drewN HBgb.out nd); have HX1 := Aside0.mk (show w1.heap[gb]? = some (.cells (chA x (.slice A3 x.f2.length c3)) 32 (0, 0)) by rw [hnd]; exact HXgb.out); clear hnd nd) | ((with_reducible refine gate_dst (N := 17) rfl ?_); refine load32_ev rfl (N := 17) rfl x (.slice A3 x.f2.length c3) (p := .tmp 5) rfl (ad := ⟨gb, 0, none⟩) rfl (blk_cells HX1.out) ?_) | (go_at_call 34; (with_reducible refine (change_Check.calls (x.f7.size + 200) x.f0.f0 x.f0.f1 x.f1 A3 c3 x.f2 x.f3 x.f4.f0 x.f4.f1 x.f5.f0 x.f5.f1 x.f6.f0 x.f6.f1 x.f7 x.f8 _ _ (Kd.C_below HC3.out HB1.out) HL3.out HCE.out).mono ?_); rintro e w2 ⟨rfl, hb2⟩; have HB2 := Aside0.mk (HB1.out.trans (hb2.mono HB1.out.size)); have HX2 := Aside0.mk (blk_below HX1.out hb2); clear hb2))

 refine start_ (n := 22) (S := (fun w' => w'.heap[gb]? = some (.cells (chA x (.slice A3 x.f2.length c3)) 32 (0, 0)))) (ds := []) #[false, false, false, false, false, false, false, false, false, false, false, false, false, false, false, false, false, false, false, false, false, false] (by kernel_rfl) rfl rfl (HX2.out) (fun hHeld => ?_)
 refine with_tabW tka.tab7 tka.bits7 (fun HT_ HW_ => ?_)
 refine pureS (i := 0) (N := (some 22)) #[true, false, false, false, false, false, false, false, false, false, false, false, false, false, false, false, false, false, false, false, false, false] HT_ ?_
 refine pureS (i := 2) (N := (some 24)) #[true, false, true, false, false, false, false, false, false, false, false, false, false, false, false, false, false, false, false, false, false, false] HT_ ?_
 refine pureS (i := 3) (N := (some 25)) #[true, false, true, true, false, false, false, false, false, false, false, false, false, false, false, false, false, false, false, false, false, false] HT_ ?_
 refine pureS (i := 4) (N := (some 26)) #[true, false, true, true, true, false, false, false, false, false, false, false, false, false, false, false, false, false, false, false, false, false] HT_ ?_
 refine take_ (i := 1) (N := (some 23)) (v := ?_) (a' := ?_) #[true, true, true, true, true, false, false, false, false, false, false, false, false, false, false, false, false, false, false, false, false, false] rfl rfl (take_ofW HT_.out HW_.out (by kernel_rfl)) (fun _ _ _ h => h) (Or.inl ⟨by rfl, ?_⟩) hHeld ?_ ?_
 rotate_left
 ·rintro w' s0; have f1 : w'.cell? ⟨gb, 2, none⟩ = some (.int .i64 x.f1) := (blk_cell s0 2).trans rfl; have f2 : w'.cell? ⟨gb, 1, none⟩ = some (.int .i64 x.f0.f1) := (blk_cell s0 1).trans rfl
  go_simp
  with_reducible rfl
 rotate_left
 ·simp only [Act.put, List.setIfInBounds_toArray, List.set_cons_zero, List.set_cons_succ, i64_w, i32_w]
  rfl
 refine take_ (i := 5) (N := (some 27)) (v := ?_) (a' := ?_) #[true, true, true, true, true, true, false, false, false, false, false, false, false, false, false, false, false, false, false, false, false, false] rfl rfl (take_ofW HT_.out HW_.out (by kernel_rfl)) (fun _ _ _ h => h) (Or.inl ⟨by rfl, ?_⟩) hHeld ?_ ?_
 rotate_left
 ·rintro w' s0; have f1 : w'.cell? ⟨gb, 2, none⟩ = some (.int .i64 x.f1) := (blk_cell s0 2).trans rfl; have f2 : w'.cell? ⟨gb, 1, none⟩ = some (.int .i64 x.f0.f1) := (blk_cell s0 1).trans rfl
  go_simp
  with_reducible rfl
 rotate_left
 ·simp only [Act.put, List.setIfInBounds_toArray, List.set_cons_zero, List.set_cons_succ, i64_w, i32_w]
  rfl
 refine one_ (i := 6) (N := (some 28)) #[true, true, true, true, true, true, true, false, false, false, false, false, false, false, false, false, false, false, false, false, false, false] rfl rfl (one_of HT_.out (by kernel_rfl)) (by decide) (fun K hK => ?_)
 refine goes_ Try.func35 (by kernel_rfl) rfl #[.slice A0 known.length c0, .int .i64 x.f0.f1] (by rfl) rfl rfl (by (try simp only [List.map_toArray, List.map_cons, List.map_nil]); first | done | rfl) ?_
 refine (clock_At.calls A0 c0 known x.f0.f1 _ _ (Kd.C_drew (Kd.C_below HK.out HB2.out)) HKC.out HAT.out).mono ?_
 rintro e w3 ⟨rfl, ⟨nd2, hnd2⟩⟩
 refine ⟨_, rfl, ?_⟩
 have HB3 := Aside0.mk (show Below w.heap.size w w3 by rw [hnd2]; exact pw_below_drewN (below_drew HB2.out) nd2)
 have hS3 : (fun w' => w'.heap[gb]? = some (.cells (chA x (.slice A3 x.f2.length c3)) 32 (0, 0))) w3 := by rw [hnd2]; exact hHeld
 clear hnd2
 refine hK.out _ _ (hS3) (fun hHeld => ?_)
 clear hK K
 refine norm_ (a' := ?_) ?_ ?_
 rotate_left
 ·show Act.put _ (some 28) _ = _
  simp only [Act.put, List.setIfInBounds_toArray, List.set_cons_zero, List.set_cons_succ, i64_w, i32_w]
  rfl
 refine pureS (i := 7) (N := (some 29)) #[true, true, true, true, true, true, true, true, false, false, false, false, false, false, false, false, false, false, false, false, false, false] HT_ ?_
 refine pureS (i := 8) (N := (some 30)) #[true, true, true, true, true, true, true, true, true, false, false, false, false, false, false, false, false, false, false, false, false, false] HT_ ?_
 refine pure_ (i := 9) (N := (some 31)) (v := undef) (a' := ?_) #[true, true, true, true, true, true, true, true, true, true, false, false, false, false, false, false, false, false, false, false, false, false] rfl rfl (any_of HT_.out (by kernel_rfl)) (fun _ _ _ h => h) (Or.inr ⟨by rfl, rfl⟩) ?_ ?_
 rotate_left
 ·simp only [Act.put, List.setIfInBounds_toArray, List.set_cons_zero, List.set_cons_succ, i64_w, i32_w]
  rfl
 refine pure_ (i := 10) (N := (some 32)) (v := undef) (a' := ?_) #[true, true, true, true, true, true, true, true, true, true, true, false, false, false, false, false, false, false, false, false, false, false] rfl rfl (any_of HT_.out (by kernel_rfl)) (fun _ _ _ h => h) (Or.inr ⟨by rfl, rfl⟩) ?_ ?_
 rotate_left
 ·simp only [Act.put, List.setIfInBounds_toArray, List.set_cons_zero, List.set_cons_succ, i64_w, i32_w]
  rfl
 refine pure_ (i := 11) (N := (some 33)) (v := undef) (a' := ?_) #[true, true, true, true, true, true, true, true, true, true, true, true, false, false, false, false, false, false, false, false, false, false] rfl rfl (any_of HT_.out (by kernel_rfl)) (fun _ _ _ h => h) (Or.inr ⟨by rfl, rfl⟩) ?_ ?_
 rotate_left
 ·simp only [Act.put, List.setIfInBounds_toArray, List.set_cons_zero, List.set_cons_succ, i64_w, i32_w]
  rfl
 refine pure_ (i := 12) (N := (some 34)) (v := undef) (a' := ?_) #[true, true, true, true, true, true, true, true, true, true, true, true, true, false, false, false, false, false, false, false, false, false] rfl rfl (any_of HT_.out (by kernel_rfl)) (fun _ _ _ h => h) (Or.inr ⟨by rfl, rfl⟩) ?_ ?_
 rotate_left
 ·simp only [Act.put, List.setIfInBounds_toArray, List.set_cons_zero, List.set_cons_succ, i64_w, i32_w]
  rfl
 refine pure_ (i := 13) (N := (some 35)) (v := undef) (a' := ?_) #[true, true, true, true, true, true, true, true, true, true, true, true, true, true, false, false, false, false, false, false, false, false] rfl rfl (any_of HT_.out (by kernel_rfl)) (fun _ _ _ h => h) (Or.inr ⟨by rfl, rfl⟩) ?_ ?_
 rotate_left
 ·simp only [Act.put, List.setIfInBounds_toArray, List.set_cons_zero, List.set_cons_succ, i64_w, i32_w]
  rfl
 refine pure_ (i := 14) (N := (some 36)) (v := undef) (a' := ?_) #[true, true, true, true, true, true, true, true, true, true, true, true, true, true, true, false, false, false, false, false, false, false] rfl rfl (any_of HT_.out (by kernel_rfl)) (fun _ _ _ h => h) (Or.inr ⟨by rfl, rfl⟩) ?_ ?_
 rotate_left
 ·simp only [Act.put, List.setIfInBounds_toArray, List.set_cons_zero, List.set_cons_succ, i64_w, i32_w]
  rfl
 refine pure_ (i := 15) (N := (some 37)) (v := undef) (a' := ?_) #[true, true, true, true, true, true, true, true, true, true, true, true, true, true, true, true, false, false, false, false, false, false] rfl rfl (any_of HT_.out (by kernel_rfl)) (fun _ _ _ h => h) (Or.inr ⟨by rfl, rfl⟩) ?_ ?_
 rotate_left
 ·simp only [Act.put, List.setIfInBounds_toArray, List.set_cons_zero, List.set_cons_succ, i64_w, i32_w]
  rfl
 refine pure_ (i := 16) (N := (some 38)) (v := undef) (a' := ?_) #[true, true, true, true, true, true, true, true, true, true, true, true, true, true, true, true, true, false, false, false, false, false] rfl rfl (any_of HT_.out (by kernel_rfl)) (fun _ _ _ h => h) (Or.inr ⟨by rfl, rfl⟩) ?_ ?_
 rotate_left
 ·simp only [Act.put, List.setIfInBounds_toArray, List.set_cons_zero, List.set_cons_succ, i64_w, i32_w]
  rfl
 refine pure_ (i := 17) (N := (some 39)) (v := undef) (a' := ?_) #[true, true, true, true, true, true, true, true, true, true, true, true, true, true, true, true, true, true, false, false, false, false] rfl rfl (any_of HT_.out (by kernel_rfl)) (fun _ _ _ h => h) (Or.inr ⟨by rfl, rfl⟩) ?_ ?_
 rotate_left
 ·simp only [Act.put, List.setIfInBounds_toArray, List.set_cons_zero, List.set_cons_succ, i64_w, i32_w]
  rfl
 refine pure_ (i := 18) (N := (some 40)) (v := undef) (a' := ?_) #[true, true, true, true, true, true, true, true, true, true, true, true, true, true, true, true, true, true, true, false, false, false] rfl rfl (any_of HT_.out (by kernel_rfl)) (fun _ _ _ h => h) (Or.inr ⟨by rfl, rfl⟩) ?_ ?_
 rotate_left
 ·simp only [Act.put, List.setIfInBounds_toArray, List.set_cons_zero, List.set_cons_succ, i64_w, i32_w]
  rfl
 refine pure_ (i := 19) (N := (some 41)) (v := undef) (a' := ?_) #[true, true, true, true, true, true, true, true, true, true, true, true, true, true, true, true, true, true, true, true, false, false] rfl rfl (any_of HT_.out (by kernel_rfl)) (fun _ _ _ h => h) (Or.inr ⟨by rfl, rfl⟩) ?_ ?_
 rotate_left
 ·simp only [Act.put, List.setIfInBounds_toArray, List.set_cons_zero, List.set_cons_succ, i64_w, i32_w]
  rfl
 refine pure_ (i := 20) (N := (some 42)) (v := undef) (a' := ?_) #[true, true, true, true, true, true, true, true, true, true, true, true, true, true, true, true, true, true, true, true, true, false] rfl rfl (any_of HT_.out (by kernel_rfl)) (fun _ _ _ h => h) (Or.inr ⟨by rfl, rfl⟩) ?_ ?_
 rotate_left
 ·simp only [Act.put, List.setIfInBounds_toArray, List.set_cons_zero, List.set_cons_succ, i64_w, i32_w]
  rfl
 refine pureS (i := 21) (N := (some 43)) #[true, true, true, true, true, true, true, true, true, true, true, true, true, true, true, true, true, true, true, true, true, true] HT_ ?_
 refine done_ (done_of HT_.out (by kernel_rfl)) ?_
 go_wp2_with (fail)
 go_ret2
 exact TakeN.err HBN.out HB3.out
set_option maxHeartbeats 8000000 in
set_option maxRecDepth 100000 in
theorem takeN_ripe {w : World} {base : Nat} (hbn : base ≤ w.heap.size) (A0 : Option Addr) (c0 : Nat) (known : List Int) (hk : Kd.C (Kd.int .i64) w A0 known.length known) (hkc : known.length ≤ c0)
  (x : S32) (A3 : Option Addr) (c3 : Nat) (hx : Kd.C (Kd.int .i64) w A3 x.f2.length x.f2) (hx3 : x.f2.length ≤ c3) (hs : x.f7.size < 4611686018427387904) (hc : chkC known = 0) (hc2 : checkX x = 0) (hw : withinX known x = false) (hr : ripeC known x = true) :
  Calls Try.prog 13 #[.pointer none, .slice A0 known.length c0, (.agg #[.int .i64 x.f0.f0, .int .i64 x.f0.f1, .int .i64 x.f1, (.slice A3 x.f2.length c3), .int .i64 x.f3, .int .i64 x.f4.f0, .int .i64 x.f4.f1, .int .i64 x.f5.f0, .int .i64 x.f5.f1, .int .i64 x.f6.f0, .int .i64 x.f6.f1, .string x.f7, .string x.f8])] w (TakeN w base ([x], 0)) := by
 have HBN := Aside0.mk hbn
 have HK := Aside0.mk hk
 have HKC := Aside0.mk hkc
 have HC3 := Aside0.mk hx
 have HL3 := Aside0.mk hx3
 have HCK := Aside0.mk (clock_Check_is known 66 (by decide))
 rw [hc] at HCK
 have HCE := Aside0.mk (change_Check_is (x.f7.size + 200) x.f0.f0 x.f0.f1 x.f1 x.f2 x.f3 x.f4.f0 x.f4.f1 x.f5.f0 x.f5.f1 x.f6.f0 x.f6.f1 x.f7 x.f8 hs (by omega) (by omega))
 rw [show checkC x.f0.f0 x.f0.f1 x.f1 x.f2 x.f3 x.f4.f0 x.f4.f1 x.f5.f0 x.f5.f1 x.f6.f0 x.f6.f1 x.f7 x.f8 = checkX x from rfl, hc2] at HCE
 have HX64 := Aside0.mk (check_ok hc2)
 have HCH := Aside0.mk hc
 obtain ⟨at_, hat_⟩ : ∃ a, atC known x.f0.f1 = a := ⟨_, rfl⟩
 have HAT := Aside0.mk (clock_At_is known x.f0.f1)
 rw [hat_] at HAT
 have hwx : withinX known x = decide (x.f1 ≤ at_) := by unfold withinX; rw [hat_]
 clear hat_

 rw [hw] at hwx
 have d1 : decide (x.f1 ≤ at_) = false := hwx.symm
 have HRD := Aside0.mk (ready_is (known := known) (x := x) hc (check_ok hc2).2.2.2.2.2 71 (by decide))
 rw [hr] at HRD
 have HCP := Aside0.mk (copy_is x (check_ok hc2).2.2.2.2.2)
 clear hbn hk hkc hx hx3 hs hc hc2 hw hwx hr
 go_enter Try.func13, Try.ntmps13
 go_wp2_with (first | ((with_reducible refine gate_dst (N := 5) rfl ?_); refine box_event ?hg (N := 5) ?hd (cs := #[.int .i64 x.f0.f0, .int .i64 x.f0.f1, .int .i64 x.f1, (.slice A3 x.f2.length c3), .int .i64 x.f3, .int .i64 x.f4.f0, .int .i64 x.f4.f1, .int .i64 x.f5.f0, .int .i64 x.f5.f1, .int .i64 x.f6.f0, .int .i64 x.f6.f1, .string x.f7, .string x.f8]) (t := 32) ?hr ?_; (case hd => rfl); (case hg => rfl); (case hr => first | (go_simp; done) | (go_simp; rfl)); intro gb hr_ w0 hbox hb; have HXgb := Aside0.mk hbox; have HBgb := Aside0.mk hb; have HNgb := Aside0.mk (Nat.le_of_eq hr_.symm); clear hbox hb hr_) | (go_at_call 33; (with_reducible refine (clock_Check.calls 66 A0 c0 known _ _ (Kd.C_below HK.out HBgb.out) HKC.out HCK.out).mono ?_); rintro e w1 ⟨rfl, ⟨nd, hnd⟩⟩; have HB1 := Aside0.mk (show Below w.heap.size w w1 by rw [hnd]; exact pw_below_drewN HBgb.out nd); have HX1 := Aside0.mk (show w1.heap[gb]? = some (.cells (chA x (.slice A3 x.f2.length c3)) 32 (0, 0)) by rw [hnd]; exact HXgb.out); clear hnd nd) | ((with_reducible refine gate_dst (N := 17) rfl ?_); refine load32_ev rfl (N := 17) rfl x (.slice A3 x.f2.length c3) (p := .tmp 5) rfl (ad := ⟨gb, 0, none⟩) rfl (blk_cells HX1.out) ?_) | (go_at_call 34; (with_reducible refine (change_Check.calls (x.f7.size + 200) x.f0.f0 x.f0.f1 x.f1 A3 c3 x.f2 x.f3 x.f4.f0 x.f4.f1 x.f5.f0 x.f5.f1 x.f6.f0 x.f6.f1 x.f7 x.f8 _ _ (Kd.C_below HC3.out HB1.out) HL3.out HCE.out).mono ?_); rintro e w2 ⟨rfl, hb2⟩; have HB2 := Aside0.mk (HB1.out.trans (hb2.mono HB1.out.size)); have HX2 := Aside0.mk (blk_below HX1.out hb2); clear hb2))

 refine start_ (n := 22) (S := (fun w' => w'.heap[gb]? = some (.cells (chA x (.slice A3 x.f2.length c3)) 32 (0, 0)))) (ds := []) #[false, false, false, false, false, false, false, false, false, false, false, false, false, false, false, false, false, false, false, false, false, false] (by kernel_rfl) rfl rfl (HX2.out) (fun hHeld => ?_)
 refine with_tabW tka.tab7 tka.bits7 (fun HT_ HW_ => ?_)
 refine pureS (i := 0) (N := (some 22)) #[true, false, false, false, false, false, false, false, false, false, false, false, false, false, false, false, false, false, false, false, false, false] HT_ ?_
 refine pureS (i := 2) (N := (some 24)) #[true, false, true, false, false, false, false, false, false, false, false, false, false, false, false, false, false, false, false, false, false, false] HT_ ?_
 refine pureS (i := 3) (N := (some 25)) #[true, false, true, true, false, false, false, false, false, false, false, false, false, false, false, false, false, false, false, false, false, false] HT_ ?_
 refine pureS (i := 4) (N := (some 26)) #[true, false, true, true, true, false, false, false, false, false, false, false, false, false, false, false, false, false, false, false, false, false] HT_ ?_
 refine take_ (i := 1) (N := (some 23)) (v := ?_) (a' := ?_) #[true, true, true, true, true, false, false, false, false, false, false, false, false, false, false, false, false, false, false, false, false, false] rfl rfl (take_ofW HT_.out HW_.out (by kernel_rfl)) (fun _ _ _ h => h) (Or.inl ⟨by rfl, ?_⟩) hHeld ?_ ?_
 rotate_left
 ·rintro w' s0; have f1 : w'.cell? ⟨gb, 2, none⟩ = some (.int .i64 x.f1) := (blk_cell s0 2).trans rfl; have f2 : w'.cell? ⟨gb, 1, none⟩ = some (.int .i64 x.f0.f1) := (blk_cell s0 1).trans rfl
  go_simp
  with_reducible rfl
 rotate_left
 ·simp only [Act.put, List.setIfInBounds_toArray, List.set_cons_zero, List.set_cons_succ, i64_w, i32_w]
  rfl
 refine take_ (i := 5) (N := (some 27)) (v := ?_) (a' := ?_) #[true, true, true, true, true, true, false, false, false, false, false, false, false, false, false, false, false, false, false, false, false, false] rfl rfl (take_ofW HT_.out HW_.out (by kernel_rfl)) (fun _ _ _ h => h) (Or.inl ⟨by rfl, ?_⟩) hHeld ?_ ?_
 rotate_left
 ·rintro w' s0; have f1 : w'.cell? ⟨gb, 2, none⟩ = some (.int .i64 x.f1) := (blk_cell s0 2).trans rfl; have f2 : w'.cell? ⟨gb, 1, none⟩ = some (.int .i64 x.f0.f1) := (blk_cell s0 1).trans rfl
  go_simp
  with_reducible rfl
 rotate_left
 ·simp only [Act.put, List.setIfInBounds_toArray, List.set_cons_zero, List.set_cons_succ, i64_w, i32_w]
  rfl
 refine one_ (i := 6) (N := (some 28)) #[true, true, true, true, true, true, true, false, false, false, false, false, false, false, false, false, false, false, false, false, false, false] rfl rfl (one_of HT_.out (by kernel_rfl)) (by decide) (fun K hK => ?_)
 refine goes_ Try.func35 (by kernel_rfl) rfl #[.slice A0 known.length c0, .int .i64 x.f0.f1] (by rfl) rfl rfl (by (try simp only [List.map_toArray, List.map_cons, List.map_nil]); first | done | rfl) ?_
 refine (clock_At.calls A0 c0 known x.f0.f1 _ _ (Kd.C_drew (Kd.C_below HK.out HB2.out)) HKC.out HAT.out).mono ?_
 rintro e w3 ⟨rfl, ⟨nd2, hnd2⟩⟩
 refine ⟨_, rfl, ?_⟩
 have HB3 := Aside0.mk (show Below w.heap.size w w3 by rw [hnd2]; exact pw_below_drewN (below_drew HB2.out) nd2)
 have hS3 : (fun w' => w'.heap[gb]? = some (.cells (chA x (.slice A3 x.f2.length c3)) 32 (0, 0))) w3 := by rw [hnd2]; exact hHeld
 clear hnd2
 refine hK.out _ _ (hS3) (fun hHeld => ?_)
 clear hK K
 refine norm_ (a' := ?_) ?_ ?_
 rotate_left
 ·show Act.put _ (some 28) _ = _
  simp only [Act.put, List.setIfInBounds_toArray, List.set_cons_zero, List.set_cons_succ, i64_w, i32_w]
  rfl
 refine pureS (i := 7) (N := (some 29)) #[true, true, true, true, true, true, true, true, false, false, false, false, false, false, false, false, false, false, false, false, false, false] HT_ ?_
 refine pureS (i := 8) (N := (some 30)) #[true, true, true, true, true, true, true, true, true, false, false, false, false, false, false, false, false, false, false, false, false, false] HT_ ?_
 refine pureS (i := 9) (N := (some 31)) #[true, true, true, true, true, true, true, true, true, true, false, false, false, false, false, false, false, false, false, false, false, false] HT_ ?_
 refine pureS (i := 10) (N := (some 32)) #[true, true, true, true, true, true, true, true, true, true, true, false, false, false, false, false, false, false, false, false, false, false] HT_ ?_
 refine pureS (i := 11) (N := (some 33)) #[true, true, true, true, true, true, true, true, true, true, true, true, false, false, false, false, false, false, false, false, false, false] HT_ ?_
 refine pure_ (i := 12) (N := (some 34)) (v := undef) (a' := ?_) #[true, true, true, true, true, true, true, true, true, true, true, true, true, false, false, false, false, false, false, false, false, false] rfl rfl (any_of HT_.out (by kernel_rfl)) (fun _ _ _ h => h) (Or.inr ⟨by rfl, rfl⟩) ?_ ?_
 rotate_left
 ·simp only [Act.put, List.setIfInBounds_toArray, List.set_cons_zero, List.set_cons_succ, i64_w, i32_w]
  rfl
 refine pure_ (i := 13) (N := (some 35)) (v := undef) (a' := ?_) #[true, true, true, true, true, true, true, true, true, true, true, true, true, true, false, false, false, false, false, false, false, false] rfl rfl (any_of HT_.out (by kernel_rfl)) (fun _ _ _ h => h) (Or.inr ⟨by rfl, rfl⟩) ?_ ?_
 rotate_left
 ·simp only [Act.put, List.setIfInBounds_toArray, List.set_cons_zero, List.set_cons_succ, i64_w, i32_w]
  rfl
 refine pure_ (i := 14) (N := (some 36)) (v := undef) (a' := ?_) #[true, true, true, true, true, true, true, true, true, true, true, true, true, true, true, false, false, false, false, false, false, false] rfl rfl (any_of HT_.out (by kernel_rfl)) (fun _ _ _ h => h) (Or.inr ⟨by rfl, rfl⟩) ?_ ?_
 rotate_left
 ·simp only [Act.put, List.setIfInBounds_toArray, List.set_cons_zero, List.set_cons_succ, i64_w, i32_w]
  rfl
 refine pure_ (i := 15) (N := (some 37)) (v := undef) (a' := ?_) #[true, true, true, true, true, true, true, true, true, true, true, true, true, true, true, true, false, false, false, false, false, false] rfl rfl (any_of HT_.out (by kernel_rfl)) (fun _ _ _ h => h) (Or.inr ⟨by rfl, rfl⟩) ?_ ?_
 rotate_left
 ·simp only [Act.put, List.setIfInBounds_toArray, List.set_cons_zero, List.set_cons_succ, i64_w, i32_w]
  rfl
 refine pure_ (i := 16) (N := (some 38)) (v := undef) (a' := ?_) #[true, true, true, true, true, true, true, true, true, true, true, true, true, true, true, true, true, false, false, false, false, false] rfl rfl (any_of HT_.out (by kernel_rfl)) (fun _ _ _ h => h) (Or.inr ⟨by rfl, rfl⟩) ?_ ?_
 rotate_left
 ·simp only [Act.put, List.setIfInBounds_toArray, List.set_cons_zero, List.set_cons_succ, i64_w, i32_w]
  rfl
 refine pure_ (i := 17) (N := (some 39)) (v := undef) (a' := ?_) #[true, true, true, true, true, true, true, true, true, true, true, true, true, true, true, true, true, true, false, false, false, false] rfl rfl (any_of HT_.out (by kernel_rfl)) (fun _ _ _ h => h) (Or.inr ⟨by rfl, rfl⟩) ?_ ?_
 rotate_left
 ·simp only [Act.put, List.setIfInBounds_toArray, List.set_cons_zero, List.set_cons_succ, i64_w, i32_w]
  rfl
 refine pure_ (i := 18) (N := (some 40)) (v := undef) (a' := ?_) #[true, true, true, true, true, true, true, true, true, true, true, true, true, true, true, true, true, true, true, false, false, false] rfl rfl (any_of HT_.out (by kernel_rfl)) (fun _ _ _ h => h) (Or.inr ⟨by rfl, rfl⟩) ?_ ?_
 rotate_left
 ·simp only [Act.put, List.setIfInBounds_toArray, List.set_cons_zero, List.set_cons_succ, i64_w, i32_w]
  rfl
 refine pure_ (i := 19) (N := (some 41)) (v := undef) (a' := ?_) #[true, true, true, true, true, true, true, true, true, true, true, true, true, true, true, true, true, true, true, true, false, false] rfl rfl (any_of HT_.out (by kernel_rfl)) (fun _ _ _ h => h) (Or.inr ⟨by rfl, rfl⟩) ?_ ?_
 rotate_left
 ·simp only [Act.put, List.setIfInBounds_toArray, List.set_cons_zero, List.set_cons_succ, i64_w, i32_w]
  rfl
 refine pureS (i := 20) (N := (some 42)) #[true, true, true, true, true, true, true, true, true, true, true, true, true, true, true, true, true, true, true, true, true, false] HT_ ?_
 refine pureS (i := 21) (N := (some 43)) #[true, true, true, true, true, true, true, true, true, true, true, true, true, true, true, true, true, true, true, true, true, true] HT_ ?_
 refine done_ (done_of HT_.out (by kernel_rfl)) ?_
 have HX3 := Aside0.mk hS3
 clear hS3 hHeld
 go_wp2_with (first | ((with_reducible refine gate_dst (N := 45) rfl ?_); refine load32_ev rfl (N := 45) rfl x (.slice A3 x.f2.length c3) (p := .tmp 5) rfl (ad := ⟨gb, 0, none⟩) rfl (blk_cells HX3.out) ?_) | (go_at_call 37; (with_reducible refine (causal_ready.calls 71 A0 c0 known x.f0.f0 x.f0.f1 x.f1 A3 c3 x.f2 x.f3 x.f4.f0 x.f4.f1 x.f5.f0 x.f5.f1 x.f6.f0 x.f6.f1 x.f7 x.f8 _ _ (Kd.C_below HK.out HB3.out) HKC.out (Kd.C_below HC3.out HB3.out) HL3.out HRD.out).mono ?_); rintro e w5 ⟨rfl, hb5⟩; have HB5 := Aside0.mk (HB3.out.trans (hb5.mono HB3.out.size)); have HX5 := Aside0.mk (blk_below HX3.out hb5); clear hb5) | ((with_reducible refine gate_dst (N := 49) rfl ?_); refine load32_ev rfl (N := 49) rfl x (.slice A3 x.f2.length c3) (p := .tmp 5) rfl (ad := ⟨gb, 0, none⟩) rfl (blk_cells HX5.out) ?_) | (go_at_call 39; (with_reducible refine (change_Copy.calls x.f0.f0 x.f0.f1 x.f1 A3 c3 x.f2 x.f3 x.f4.f0 x.f4.f1 x.f5.f0 x.f5.f1 x.f6.f0 x.f6.f1 x.f7 x.f8 x.f0.f0 x.f0.f1 x.f1 x.f2 x.f3 x.f4.f0 x.f4.f1 x.f5.f0 x.f5.f1 x.f6.f0 x.f6.f1 x.f7 x.f8 _ (Kd.C_below HC3.out HB5.out) HL3.out HCP.out).mono ?_); rintro e w6 ⟨v6, rfl, hv6, hb6⟩; obtain ⟨A6, c6, rfl⟩ := Kd.R_slice hv6; have HV6 := Aside0.mk (Kd.R_mono (Kd.R_bound hv6) (ok' := fun k => w5.heap.size ≤ k ∧ k < w6.heap.size) (fun k hk => ⟨hk.2.1, hk.2.2.1⟩)); have HB6 := Aside0.mk (HB5.out.trans (hb6.mono HB5.out.size)); clear hv6 hb6) | (go_at_call 38; (with_reducible refine (release_nil A0 c0 known (Kd.C_below HK.out HB6.out) HKC.out x A6 c6 (Kd.R_lower HV6.out (Nat.le_trans HBN.out HB5.out.size)) (Nat.le_trans HBN.out HB6.out.size)).mono ?_); rintro e w7 ⟨O, v7, rfl, hr1, hr2, hr3⟩; have HR1 := Aside0.mk hr1; have HR2 := Aside0.mk hr2; have HR3 := Aside0.mk hr3; clear hr1 hr2 hr3))
 go_ret2
 refine ⟨O, v7, rfl, HR1.out, fun k hk => ?_, HB6.out.trans (HR3.out.mono HB6.out.size)⟩
 have h5 := HB5.out.size
 have h6 := HB6.out.size
 rcases HR2.out k hk with h_ | h_ <;> omega
set_option maxHeartbeats 8000000 in
set_option maxRecDepth 100000 in
theorem takeN_full {w : World} {base : Nat} (hbn : base ≤ w.heap.size) (A0 : Option Addr) (c0 : Nat) (known : List Int) (hk : Kd.C (Kd.int .i64) w A0 known.length known) (hkc : known.length ≤ c0)
  (x : S32) (A3 : Option Addr) (c3 : Nat) (hx : Kd.C (Kd.int .i64) w A3 x.f2.length x.f2) (hx3 : x.f2.length ≤ c3) (hs : x.f7.size < 4611686018427387904) (hc : chkC known = 0) (hc2 : checkX x = 0) (hw : withinX known x = false) (hr : ripeC known x = false) :
  Calls Try.prog 13 #[.pointer none, .slice A0 known.length c0, (.agg #[.int .i64 x.f0.f0, .int .i64 x.f0.f1, .int .i64 x.f1, (.slice A3 x.f2.length c3), .int .i64 x.f3, .int .i64 x.f4.f0, .int .i64 x.f4.f1, .int .i64 x.f5.f0, .int .i64 x.f5.f1, .int .i64 x.f6.f0, .int .i64 x.f6.f1, .string x.f7, .string x.f8])] w (TakeN w base ([], 6)) := by
 have HBN := Aside0.mk hbn
 have HK := Aside0.mk hk
 have HKC := Aside0.mk hkc
 have HC3 := Aside0.mk hx
 have HL3 := Aside0.mk hx3
 have HCK := Aside0.mk (clock_Check_is known 66 (by decide))
 rw [hc] at HCK
 have HCE := Aside0.mk (change_Check_is (x.f7.size + 200) x.f0.f0 x.f0.f1 x.f1 x.f2 x.f3 x.f4.f0 x.f4.f1 x.f5.f0 x.f5.f1 x.f6.f0 x.f6.f1 x.f7 x.f8 hs (by omega) (by omega))
 rw [show checkC x.f0.f0 x.f0.f1 x.f1 x.f2 x.f3 x.f4.f0 x.f4.f1 x.f5.f0 x.f5.f1 x.f6.f0 x.f6.f1 x.f7 x.f8 = checkX x from rfl, hc2] at HCE
 have HX64 := Aside0.mk (check_ok hc2)
 have HCH := Aside0.mk hc
 obtain ⟨at_, hat_⟩ : ∃ a, atC known x.f0.f1 = a := ⟨_, rfl⟩
 have HAT := Aside0.mk (clock_At_is known x.f0.f1)
 rw [hat_] at HAT
 have hwx : withinX known x = decide (x.f1 ≤ at_) := by unfold withinX; rw [hat_]
 clear hat_

 rw [hw] at hwx
 have d1 : decide (x.f1 ≤ at_) = false := hwx.symm
 have HRD := Aside0.mk (ready_is (known := known) (x := x) hc (check_ok hc2).2.2.2.2.2 71 (by decide))
 rw [hr] at HRD
 clear hbn hk hkc hx hx3 hs hc hc2 hw hwx hr
 go_enter Try.func13, Try.ntmps13
 go_wp2_with (first | ((with_reducible refine gate_dst (N := 5) rfl ?_); refine box_event ?hg (N := 5) ?hd (cs := #[.int .i64 x.f0.f0, .int .i64 x.f0.f1, .int .i64 x.f1, (.slice A3 x.f2.length c3), .int .i64 x.f3, .int .i64 x.f4.f0, .int .i64 x.f4.f1, .int .i64 x.f5.f0, .int .i64 x.f5.f1, .int .i64 x.f6.f0, .int .i64 x.f6.f1, .string x.f7, .string x.f8]) (t := 32) ?hr ?_; (case hd => rfl); (case hg => rfl); (case hr => first | (go_simp; done) | (go_simp; rfl)); intro gb hr_ w0 hbox hb; have HXgb := Aside0.mk hbox; have HBgb := Aside0.mk hb; have HNgb := Aside0.mk (Nat.le_of_eq hr_.symm); clear hbox hb hr_) | (go_at_call 33; (with_reducible refine (clock_Check.calls 66 A0 c0 known _ _ (Kd.C_below HK.out HBgb.out) HKC.out HCK.out).mono ?_); rintro e w1 ⟨rfl, ⟨nd, hnd⟩⟩; have HB1 := Aside0.mk (show Below w.heap.size w w1 by rw [hnd]; exact pw_below_drewN HBgb.out nd); have HX1 := Aside0.mk (show w1.heap[gb]? = some (.cells (chA x (.slice A3 x.f2.length c3)) 32 (0, 0)) by rw [hnd]; exact HXgb.out); clear hnd nd) | ((with_reducible refine gate_dst (N := 17) rfl ?_); refine load32_ev rfl (N := 17) rfl x (.slice A3 x.f2.length c3) (p := .tmp 5) rfl (ad := ⟨gb, 0, none⟩) rfl (blk_cells HX1.out) ?_) | (go_at_call 34; (with_reducible refine (change_Check.calls (x.f7.size + 200) x.f0.f0 x.f0.f1 x.f1 A3 c3 x.f2 x.f3 x.f4.f0 x.f4.f1 x.f5.f0 x.f5.f1 x.f6.f0 x.f6.f1 x.f7 x.f8 _ _ (Kd.C_below HC3.out HB1.out) HL3.out HCE.out).mono ?_); rintro e w2 ⟨rfl, hb2⟩; have HB2 := Aside0.mk (HB1.out.trans (hb2.mono HB1.out.size)); have HX2 := Aside0.mk (blk_below HX1.out hb2); clear hb2))

 refine start_ (n := 22) (S := (fun w' => w'.heap[gb]? = some (.cells (chA x (.slice A3 x.f2.length c3)) 32 (0, 0)))) (ds := []) #[false, false, false, false, false, false, false, false, false, false, false, false, false, false, false, false, false, false, false, false, false, false] (by kernel_rfl) rfl rfl (HX2.out) (fun hHeld => ?_)
 refine with_tabW tka.tab7 tka.bits7 (fun HT_ HW_ => ?_)
 refine pureS (i := 0) (N := (some 22)) #[true, false, false, false, false, false, false, false, false, false, false, false, false, false, false, false, false, false, false, false, false, false] HT_ ?_
 refine pureS (i := 2) (N := (some 24)) #[true, false, true, false, false, false, false, false, false, false, false, false, false, false, false, false, false, false, false, false, false, false] HT_ ?_
 refine pureS (i := 3) (N := (some 25)) #[true, false, true, true, false, false, false, false, false, false, false, false, false, false, false, false, false, false, false, false, false, false] HT_ ?_
 refine pureS (i := 4) (N := (some 26)) #[true, false, true, true, true, false, false, false, false, false, false, false, false, false, false, false, false, false, false, false, false, false] HT_ ?_
 refine take_ (i := 1) (N := (some 23)) (v := ?_) (a' := ?_) #[true, true, true, true, true, false, false, false, false, false, false, false, false, false, false, false, false, false, false, false, false, false] rfl rfl (take_ofW HT_.out HW_.out (by kernel_rfl)) (fun _ _ _ h => h) (Or.inl ⟨by rfl, ?_⟩) hHeld ?_ ?_
 rotate_left
 ·rintro w' s0; have f1 : w'.cell? ⟨gb, 2, none⟩ = some (.int .i64 x.f1) := (blk_cell s0 2).trans rfl; have f2 : w'.cell? ⟨gb, 1, none⟩ = some (.int .i64 x.f0.f1) := (blk_cell s0 1).trans rfl
  go_simp
  with_reducible rfl
 rotate_left
 ·simp only [Act.put, List.setIfInBounds_toArray, List.set_cons_zero, List.set_cons_succ, i64_w, i32_w]
  rfl
 refine take_ (i := 5) (N := (some 27)) (v := ?_) (a' := ?_) #[true, true, true, true, true, true, false, false, false, false, false, false, false, false, false, false, false, false, false, false, false, false] rfl rfl (take_ofW HT_.out HW_.out (by kernel_rfl)) (fun _ _ _ h => h) (Or.inl ⟨by rfl, ?_⟩) hHeld ?_ ?_
 rotate_left
 ·rintro w' s0; have f1 : w'.cell? ⟨gb, 2, none⟩ = some (.int .i64 x.f1) := (blk_cell s0 2).trans rfl; have f2 : w'.cell? ⟨gb, 1, none⟩ = some (.int .i64 x.f0.f1) := (blk_cell s0 1).trans rfl
  go_simp
  with_reducible rfl
 rotate_left
 ·simp only [Act.put, List.setIfInBounds_toArray, List.set_cons_zero, List.set_cons_succ, i64_w, i32_w]
  rfl
 refine one_ (i := 6) (N := (some 28)) #[true, true, true, true, true, true, true, false, false, false, false, false, false, false, false, false, false, false, false, false, false, false] rfl rfl (one_of HT_.out (by kernel_rfl)) (by decide) (fun K hK => ?_)
 refine goes_ Try.func35 (by kernel_rfl) rfl #[.slice A0 known.length c0, .int .i64 x.f0.f1] (by rfl) rfl rfl (by (try simp only [List.map_toArray, List.map_cons, List.map_nil]); first | done | rfl) ?_
 refine (clock_At.calls A0 c0 known x.f0.f1 _ _ (Kd.C_drew (Kd.C_below HK.out HB2.out)) HKC.out HAT.out).mono ?_
 rintro e w3 ⟨rfl, ⟨nd2, hnd2⟩⟩
 refine ⟨_, rfl, ?_⟩
 have HB3 := Aside0.mk (show Below w.heap.size w w3 by rw [hnd2]; exact pw_below_drewN (below_drew HB2.out) nd2)
 have hS3 : (fun w' => w'.heap[gb]? = some (.cells (chA x (.slice A3 x.f2.length c3)) 32 (0, 0))) w3 := by rw [hnd2]; exact hHeld
 clear hnd2
 refine hK.out _ _ (hS3) (fun hHeld => ?_)
 clear hK K
 refine norm_ (a' := ?_) ?_ ?_
 rotate_left
 ·show Act.put _ (some 28) _ = _
  simp only [Act.put, List.setIfInBounds_toArray, List.set_cons_zero, List.set_cons_succ, i64_w, i32_w]
  rfl
 refine pureS (i := 7) (N := (some 29)) #[true, true, true, true, true, true, true, true, false, false, false, false, false, false, false, false, false, false, false, false, false, false] HT_ ?_
 refine pureS (i := 8) (N := (some 30)) #[true, true, true, true, true, true, true, true, true, false, false, false, false, false, false, false, false, false, false, false, false, false] HT_ ?_
 refine pureS (i := 9) (N := (some 31)) #[true, true, true, true, true, true, true, true, true, true, false, false, false, false, false, false, false, false, false, false, false, false] HT_ ?_
 refine pureS (i := 10) (N := (some 32)) #[true, true, true, true, true, true, true, true, true, true, true, false, false, false, false, false, false, false, false, false, false, false] HT_ ?_
 refine pureS (i := 11) (N := (some 33)) #[true, true, true, true, true, true, true, true, true, true, true, true, false, false, false, false, false, false, false, false, false, false] HT_ ?_
 refine pure_ (i := 12) (N := (some 34)) (v := undef) (a' := ?_) #[true, true, true, true, true, true, true, true, true, true, true, true, true, false, false, false, false, false, false, false, false, false] rfl rfl (any_of HT_.out (by kernel_rfl)) (fun _ _ _ h => h) (Or.inr ⟨by rfl, rfl⟩) ?_ ?_
 rotate_left
 ·simp only [Act.put, List.setIfInBounds_toArray, List.set_cons_zero, List.set_cons_succ, i64_w, i32_w]
  rfl
 refine pure_ (i := 13) (N := (some 35)) (v := undef) (a' := ?_) #[true, true, true, true, true, true, true, true, true, true, true, true, true, true, false, false, false, false, false, false, false, false] rfl rfl (any_of HT_.out (by kernel_rfl)) (fun _ _ _ h => h) (Or.inr ⟨by rfl, rfl⟩) ?_ ?_
 rotate_left
 ·simp only [Act.put, List.setIfInBounds_toArray, List.set_cons_zero, List.set_cons_succ, i64_w, i32_w]
  rfl
 refine pure_ (i := 14) (N := (some 36)) (v := undef) (a' := ?_) #[true, true, true, true, true, true, true, true, true, true, true, true, true, true, true, false, false, false, false, false, false, false] rfl rfl (any_of HT_.out (by kernel_rfl)) (fun _ _ _ h => h) (Or.inr ⟨by rfl, rfl⟩) ?_ ?_
 rotate_left
 ·simp only [Act.put, List.setIfInBounds_toArray, List.set_cons_zero, List.set_cons_succ, i64_w, i32_w]
  rfl
 refine pure_ (i := 15) (N := (some 37)) (v := undef) (a' := ?_) #[true, true, true, true, true, true, true, true, true, true, true, true, true, true, true, true, false, false, false, false, false, false] rfl rfl (any_of HT_.out (by kernel_rfl)) (fun _ _ _ h => h) (Or.inr ⟨by rfl, rfl⟩) ?_ ?_
 rotate_left
 ·simp only [Act.put, List.setIfInBounds_toArray, List.set_cons_zero, List.set_cons_succ, i64_w, i32_w]
  rfl
 refine pure_ (i := 16) (N := (some 38)) (v := undef) (a' := ?_) #[true, true, true, true, true, true, true, true, true, true, true, true, true, true, true, true, true, false, false, false, false, false] rfl rfl (any_of HT_.out (by kernel_rfl)) (fun _ _ _ h => h) (Or.inr ⟨by rfl, rfl⟩) ?_ ?_
 rotate_left
 ·simp only [Act.put, List.setIfInBounds_toArray, List.set_cons_zero, List.set_cons_succ, i64_w, i32_w]
  rfl
 refine pure_ (i := 17) (N := (some 39)) (v := undef) (a' := ?_) #[true, true, true, true, true, true, true, true, true, true, true, true, true, true, true, true, true, true, false, false, false, false] rfl rfl (any_of HT_.out (by kernel_rfl)) (fun _ _ _ h => h) (Or.inr ⟨by rfl, rfl⟩) ?_ ?_
 rotate_left
 ·simp only [Act.put, List.setIfInBounds_toArray, List.set_cons_zero, List.set_cons_succ, i64_w, i32_w]
  rfl
 refine pure_ (i := 18) (N := (some 40)) (v := undef) (a' := ?_) #[true, true, true, true, true, true, true, true, true, true, true, true, true, true, true, true, true, true, true, false, false, false] rfl rfl (any_of HT_.out (by kernel_rfl)) (fun _ _ _ h => h) (Or.inr ⟨by rfl, rfl⟩) ?_ ?_
 rotate_left
 ·simp only [Act.put, List.setIfInBounds_toArray, List.set_cons_zero, List.set_cons_succ, i64_w, i32_w]
  rfl
 refine pure_ (i := 19) (N := (some 41)) (v := undef) (a' := ?_) #[true, true, true, true, true, true, true, true, true, true, true, true, true, true, true, true, true, true, true, true, false, false] rfl rfl (any_of HT_.out (by kernel_rfl)) (fun _ _ _ h => h) (Or.inr ⟨by rfl, rfl⟩) ?_ ?_
 rotate_left
 ·simp only [Act.put, List.setIfInBounds_toArray, List.set_cons_zero, List.set_cons_succ, i64_w, i32_w]
  rfl
 refine pureS (i := 20) (N := (some 42)) #[true, true, true, true, true, true, true, true, true, true, true, true, true, true, true, true, true, true, true, true, true, false] HT_ ?_
 refine pureS (i := 21) (N := (some 43)) #[true, true, true, true, true, true, true, true, true, true, true, true, true, true, true, true, true, true, true, true, true, true] HT_ ?_
 refine done_ (done_of HT_.out (by kernel_rfl)) ?_
 have HX3 := Aside0.mk hS3
 clear hS3 hHeld
 go_wp2_with (first | ((with_reducible refine gate_dst (N := 45) rfl ?_); refine load32_ev rfl (N := 45) rfl x (.slice A3 x.f2.length c3) (p := .tmp 5) rfl (ad := ⟨gb, 0, none⟩) rfl (blk_cells HX3.out) ?_) | (go_at_call 37; (with_reducible refine (causal_ready.calls 71 A0 c0 known x.f0.f0 x.f0.f1 x.f1 A3 c3 x.f2 x.f3 x.f4.f0 x.f4.f1 x.f5.f0 x.f5.f1 x.f6.f0 x.f6.f1 x.f7 x.f8 _ _ (Kd.C_below HK.out HB3.out) HKC.out (Kd.C_below HC3.out HB3.out) HL3.out HRD.out).mono ?_); rintro e w5 ⟨rfl, hb5⟩; have HB5 := Aside0.mk (HB3.out.trans (hb5.mono HB3.out.size)); have HX5 := Aside0.mk (blk_below HX3.out hb5); clear hb5) | (go_at_call 16; (with_reducible refine (len_nil _).mono ?_); rintro e w6 ⟨rfl, rfl⟩) | (go_at_call 40; (with_reducible refine (room_nil _).mono ?_); rintro e w7 ⟨rfl, rfl⟩))
 go_ret2
 exact TakeN.err HBN.out HB5.out
theorem take13_nil {w : World} {base : Nat} (hbn : base ≤ w.heap.size) (A0 : Option Addr) (c0 : Nat) (known : List Int) (hk : Kd.C (Kd.int .i64) w A0 known.length known) (hkc : known.length ≤ c0)
  (x : S32) (A3 : Option Addr) (c3 : Nat) (hx : Kd.C (Kd.int .i64) w A3 x.f2.length x.f2) (hx3 : x.f2.length ≤ c3) (hs : x.f7.size < 4611686018427387904) :
  Calls Try.prog 13 #[.pointer none, .slice A0 known.length c0, (.agg #[.int .i64 x.f0.f0, .int .i64 x.f0.f1, .int .i64 x.f1, (.slice A3 x.f2.length c3), .int .i64 x.f3, .int .i64 x.f4.f0, .int .i64 x.f4.f1, .int .i64 x.f5.f0, .int .i64 x.f5.f1, .int .i64 x.f6.f0, .int .i64 x.f6.f1, .string x.f7, .string x.f8])] w (TakeN w base (takeF 0 [] known x).2) := by
 unfold takeF
 by_cases c1 : chkC known = 0
 ·rw [if_pos c1]
  by_cases c2 : checkX x = 0
  ·rw [if_pos c2, show ownX [] x = false from rfl, Bool.or_false]
   cases hw : withinX known x with
   | true =>
    rw [if_pos (rfl : true = true)]
    exact takeN_within hbn A0 c0 known hk hkc x A3 c3 hx hx3 hs c1 c2 hw
   | false =>
    rw [if_neg Bool.false_ne_true]
    cases hr : ripeC known x with
    | true =>
     rw [if_pos (rfl : true = true)]
     exact takeN_ripe hbn A0 c0 known hk hkc x A3 c3 hx hx3 hs c1 c2 hw hr
    | false =>
     rw [if_neg Bool.false_ne_true, if_pos (show (0 : Int) ≤ ((([] : List S32).length : Nat) : Int) from Int.le_refl _)]
     exact takeN_full hbn A0 c0 known hk hkc x A3 c3 hx hx3 hs c1 c2 hw hr
  ·rw [if_neg c2]
   exact takeN_bad hbn A0 c0 known hk hkc x A3 c3 hx hx3 hs c1 c2
 ·rw [if_neg c1]
  exact takeN_chk hbn A0 c0 known hk hkc x A3 c3 c1
theorem put_ne {w : World} {base : Nat} {P : Nat → Prop} {g : Nat} {room : Int} {l : List S32} {mb : Nat} {es : List ((Nat × KeyP) × Int)} {c : Nat} {A : Option Addr} {ch : Nat} (h : BufO w base P g room l mb es c A ch) : some g ≠ (Value.slice A l.length ch).ownBlock := fun e => ((Kd.S_R h.row).1 g e.symm).2.1 rfl
theorem put_ne2 {w : World} {base : Nat} {P : Nat → Prop} {g : Nat} {room : Int} {l : List S32} {mb : Nat} {es : List ((Nat × KeyP) × Int)} {c : Nat} {A : Option Addr} {ch gb : Nat} (h : BufO w base P g room l mb es c A ch) (hgb : w.heap.size ≤ gb) : some gb ≠ (Value.slice A l.length ch).ownBlock := fun e => by
 have := ((Kd.S_R h.row).1 gb e.symm).1.2
 omega
theorem put_blk {w w7 : World} {base : Nat} {P : Nat → Prop} {g : Nat} {room : Int} {l : List S32} {mb : Nat} {es : List ((Nat × KeyP) × Int)} {c : Nat} {A : Option Addr} {ch : Nat} (h : BufO w base P g room l mb es c A ch) (hb : Below w.heap.size w w7) {o : Obj} : (w7.alloc o).heap[g]? = some (.cells #[.int .i64 room, .slice A l.length ch, .map (some mb)] 71 (0, 0)) := Mem.alloc_old (blk_below h.blk hb) o
theorem findP_new {es : List ((Nat × KeyP) × Int)} {k : KeyP} {c : Nat} {v : Int} : ∀ {i : Nat}, findP es k i = none → findP (es ++ [((c, k), v)]) k i = some (i + es.length, .int .i64 v) := by
 induction es with
 | nil =>
  intro i _
  have hs : sameK k k = true := sameK_iff.2 rfl
  simp [findP, hs]
 | cons e t ih =>
  intro i h
  unfold findP at h
  rw [List.cons_append]
  unfold findP
  by_cases hs : sameK k e.1.2 = true
  ·rw [if_pos hs] at h; cases h
  ·rw [if_neg hs] at h ⊢
   rw [ih h, List.length_cons, show i + 1 + t.length = i + (t.length + 1) from by omega]
theorem valP_new {es : List ((Nat × KeyP) × Int)} {k : KeyP} {c : Nat} {v : Int} (h : findP es k 0 = none) : valP (es ++ [((c, k), v)]) k = .int .i64 v := by
 unfold valP
 rw [findP_new h]
/-- The buffer in the midst of put: the change is in the row, the map knows nothing of it. -/
structure PutM (w : World) (base : Nat) (P : Nat → Prop) (g : Nat) (room : Int) (l' : List S32) (mb : Nat) (es : List ((Nat × KeyP) × Int)) (c : Nat) (A9 : Option Addr) (c9 : Nat) (w10 : World) : Prop where
 blk : w10.heap[g]? = some (.cells #[.int .i64 room, .slice A9 l'.length c9, .map (some mb)] 71 (0, 0))
 map : MapE w10 mb es c
 row : Kd.S k32 32 w10 base (fun k => ((P k ∧ k < w.heap.size) ∧ k ≠ g ∧ k ≠ mb) ∨ w.heap.size ≤ k) (.slice A9 l'.length c9) l'
 kept : Kept w w10 P
theorem put_mid {w w7 w9 : World} {base : Nat} {P : Nat → Prop} {g : Nat} {room : Int} {l l' : List S32} {mb : Nat} {es : List ((Nat × KeyP) × Int)} {c : Nat} {A A9 : Option Addr} {ch c9 : Nat} {o : Obj} (h : BufO w base P g room l mb es c A ch) (hb7 : Below w.heap.size w w7)
  (hs : Kd.S k32 32 w9 base (fun k => ((P k ∧ k < w.heap.size) ∧ k ≠ g ∧ k ≠ mb) ∨ w.heap.size ≤ k) (.slice A9 l'.length c9) l') (hg : (w7.alloc o).grownBy w9 (Value.slice A l.length ch).ownBlock) :
  PutM w base P g room l' mb es c A9 c9 (w9.setCell ⟨g, 1, none⟩ (.slice A9 l'.length c9)) := by
 have hgw := blk_lt h.blk
 have hmw := blk_lt h.map
 have hmo : some mb ≠ (Value.slice A l.length ch).ownBlock := fun e => ((Kd.S_R h.row).1 mb e.symm).2.2 rfl
 refine ⟨blk_put (blk_grown (put_blk h hb7) hg (put_ne h)) 1 _ rfl, ?_, ?_, ?_⟩
 ·unfold MapE
  rw [Below.heap_setCell w9 ⟨g, 1, none⟩ _ mb (Ne.symm h.ne), hg.block mb (by rw [Mem.alloc_size]; have := hb7.size; omega) hmo]
  exact Mem.alloc_old (blk_below h.map hb7) o
 ·refine Kd.S_far hs (fun k hk => ?_) _
  rcases hk with hk | hk
  ·exact hk.2.1
  ·intro e
   have e' : k = g := e
   omega
 ·refine Kept.setCell (Kept.of_grown hg ((Kept.of_below hb7 P).alloc o) (fun k hk => .inl ((Kd.S_R h.row).1 k hk).1.1)) (.inl h.Pg) _
theorem put_fin {w w10 w11 : World} {base : Nat} {P : Nat → Prop} {g : Nat} {room : Int} {l : List S32} {i : Nat} {x : S32} {mb : Nat} {es : List ((Nat × KeyP) × Int)} {c : Nat} {A A9 : Option Addr} {ch c9 : Nat} {o : Obj} (h : BufO w base P g room l mb es c A ch) (hm : PutM w base P g room (l.take i ++ x :: l.drop i) mb es c A9 c9 w10) (hb : Below w10.heap.size w10 w11) (hno : keyOf x ∉ l.map keyOf) :
  TakeB w base P g room (l.take i ++ x :: l.drop i, [], 0) (.returned (.tuple #[.slice none 0 0, .int .i64 0])) ((w11.putObj mb o).putObj mb (.map ((es ++ [((c, keyOf x), 1)]).map entE).toArray (c + 1))) := by
 have hk : Kept w ((w11.putObj mb o).putObj mb (.map ((es ++ [((c, keyOf x), 1)]).map entE).toArray (c + 1))) P := ((hm.kept.below hb).putObj mb _ (.inl h.Pm)).putObj mb _ (.inl h.Pm)
 have hfar : ∀ k, k ≠ mb → k < w10.heap.size → ((w11.putObj mb o).putObj mb (.map ((es ++ [((c, keyOf x), 1)]).map entE).toArray (c + 1))).heap[k]? = w10.heap[k]? := fun k hk hlt => by
  rw [putObj_other _ _ _ _ hk, putObj_other _ _ _ _ hk, hb.block k hlt]
 have hmw := blk_lt h.map
 have hgw := blk_lt h.blk
 refine ⟨fun k => P k ∨ w.heap.size ≤ k, fun _ => False, .slice none 0 0, rfl, ?_, Kd.S_nil _ _ _ _ _, fun _ hk => hk, fun _ hk => hk.elim, fun _ hk => hk.elim, hk⟩
 refine ⟨mb, es ++ [((c, keyOf x), 1)], c + 1, A9, c9, (hfar g h.ne (blk_lt hm.blk)).trans hm.blk, h.bg, .inl h.Pg, h.bm, .inl h.Pm, ?_, h.ok.more hno (List.perm_middle.trans (by rw [List.take_append_drop])), ?_⟩
 ·refine putObj_at _ _ _ ?_
  have : (w11.putObj mb o).heap.size = w11.heap.size := by simp [World.putObj]
  rw [this]
  exact Nat.lt_of_lt_of_le (blk_lt hm.map) hb.size
 ·refine Kd.S_mono (Kd.S_step hm.row (fun k hk hlt => hfar k ?_ hlt)) (fun k hk => ?_)
  ·rcases hk with hk | hk
   ·exact hk.2.2
   ·omega
  ·rcases hk with hk | hk
   ·exact ⟨.inl hk.1.1, hk.2.1⟩
   ·exact ⟨.inr hk, by omega⟩
theorem put_insert {w w6 w7 : World} {base : Nat} {P : Nat → Prop} {g : Nat} {room : Int} {l : List S32} {mb : Nat} {es : List ((Nat × KeyP) × Int)} {c : Nat} {A : Option Addr} {ch : Nat} (h : BufO w base P g room l mb es c A ch) (hb6 : Below w.heap.size w w6) (hb7 : Below w.heap.size w w7) {x : S32} {A7 : Option Addr} {c7 : Nat}
  (hv : (Kd.int .i64).R 3 w7 w6.drew.heap.size (fun k => w6.drew.heap.size ≤ k ∧ k < w7.heap.size) (.slice A7 x.f2.length c7) x.f2) {i : Nat} (hi : i ≤ l.length) (hn : l.length < 1000) :
  Calls Try.prog 43 #[.slice A l.length ch, .int .i64 (i : Int), .slice (some ⟨w7.heap.size, 0, none⟩) 1 1] (w7.alloc (.cells (chA x (.slice A7 x.f2.length c7)) 32)) fun e w' => ∃ v', e = .returned v' ∧ Kd.S k32 32 w' base (fun k => ((P k ∧ k < w.heap.size) ∧ k ≠ g ∧ k ≠ mb) ∨ w.heap.size ≤ k) v' (l.take i ++ x :: l.drop i) ∧ (w7.alloc (.cells (chA x (.slice A7 x.f2.length c7)) 32)).grownBy w' (Value.slice A l.length ch).ownBlock := by
 have h6 : w.heap.size ≤ w6.drew.heap.size := hb6.size
 have h7 := hb7.size
 have hbs := h.shut.base_le
 have hrow := Kd.S_alloc (Kd.S_below (Kd.S_mono h.row (ok' := fun k => (((P k ∧ k < w.heap.size) ∧ k ≠ g ∧ k ≠ mb) ∨ w.heap.size ≤ k) ∧ ¬ (w6.drew.heap.size ≤ k ∧ k < w7.heap.size)) (fun k hk => ⟨.inl hk, fun h2 => by have := hk.1.2; omega⟩)) hb7) (.cells (chA x (.slice A7 x.f2.length c7)) 32)
 have hM := chMk (x := x) (Kd.R_lower (Kd.R_below hv (below_alloc (Below.refl _ _) (.cells (chA x (.slice A7 x.f2.length c7)) 32))) (Nat.le_trans hbs h6))
 refine (insert_S hrow hi (by omega) hM (fun k hk => .inr (by omega)) (fun k hk => .inr (by rw [Mem.alloc_size] at hk; omega)) w7.heap.size (put_ne2 h h7) (Mem.alloc_new _ _) (by rw [Mem.alloc_size]; omega)).mono ?_
 rintro e w' ⟨v', he, hs, hg, _⟩
 exact ⟨v', he, hs, hg⟩
set_option maxHeartbeats 8000000 in
set_option maxRecDepth 100000 in
theorem take_put {w : World} {base : Nat} {P : Nat → Prop} {g : Nat} {room : Int} {l : List S32} (hB : BufI w base P g room l) (A0 : Option Addr) (c0 : Nat) (known : List Int) (hk : Kd.C (Kd.int .i64) w A0 known.length known) (hkc : known.length ≤ c0)
  (x : S32) (A3 : Option Addr) (c3 : Nat) (hx : Kd.C (Kd.int .i64) w A3 x.f2.length x.f2) (hx3 : x.f2.length ≤ c3) (hs : x.f7.size < 4611686018427387904) (hc : chkC known = 0) (hc2 : checkX x = 0) (hw : withinX known x = false) (ho : ownX l x = false) (hr : ripeC known x = false) (hf : ¬ room ≤ l.length) (hn : l.length < 1000)
  (hbn : ∀ y ∈ l, 0 ≤ y.f1 ∧ y.f1 ≤ 1099511627776) (hmono : ∀ a b, a ≤ b → b < l.length → cmpX (rd_T32 l (b : Nat)) x < 0 → cmpX (rd_T32 l (a : Nat)) x < 0) {X : Nat → Prop} (hxF : Kd.F (Kd.int .i64) w X A3 x.f2.length x.f2) (hXP : ∀ k, X k → ¬ P k) :
  Calls Try.prog 13 #[.pointer (some ⟨g, 0, none⟩), .slice A0 known.length c0, (.agg #[.int .i64 x.f0.f0, .int .i64 x.f0.f1, .int .i64 x.f1, (.slice A3 x.f2.length c3), .int .i64 x.f3, .int .i64 x.f4.f0, .int .i64 x.f4.f1, .int .i64 x.f5.f0, .int .i64 x.f5.f1, .int .i64 x.f6.f0, .int .i64 x.f6.f1, .string x.f7, .string x.f8])] w (TakeB w base P g room (l.take (cntX x l) ++ x :: l.drop (cntX x l), [], 0)) := by
 have HBUF := Aside0.mk hB
 have HK := Aside0.mk hk
 have HKC := Aside0.mk hkc
 have HC3 := Aside0.mk hx
 have HL3 := Aside0.mk hx3
 have HCK := Aside0.mk (clock_Check_is known 66 (by decide))
 rw [hc] at HCK
 have HCE := Aside0.mk (change_Check_is (x.f7.size + 200) x.f0.f0 x.f0.f1 x.f1 x.f2 x.f3 x.f4.f0 x.f4.f1 x.f5.f0 x.f5.f1 x.f6.f0 x.f6.f1 x.f7 x.f8 hs (by omega) (by omega))
 rw [show checkC x.f0.f0 x.f0.f1 x.f1 x.f2 x.f3 x.f4.f0 x.f4.f1 x.f5.f0 x.f5.f1 x.f6.f0 x.f6.f1 x.f7 x.f8 = checkX x from rfl, hc2] at HCE
 have HX64 := Aside0.mk (check_ok hc2)
 have HCH := Aside0.mk hc
 obtain ⟨at_, hat_⟩ : ∃ a, atC known x.f0.f1 = a := ⟨_, rfl⟩
 have HAT := Aside0.mk (clock_At_is known x.f0.f1)
 rw [hat_] at HAT
 have hwx : withinX known x = decide (x.f1 ≤ at_) := by unfold withinX; rw [hat_]
 clear hat_

 rw [hw] at hwx
 have d1 : decide (x.f1 ≤ at_) = false := hwx.symm
 obtain ⟨mb, es, cc, A, ch, hO⟩ := HBUF.out.opened
 have HO := Aside0.mk hO
 clear hO

 have hown : valP es (keyOf x) = .int .i64 0 := by
  rw [HO.out.ok.val, if_neg (of_decide_eq_false ho)]
 have HOWN := Aside0.mk hown
 have HRD := Aside0.mk (ready_is (known := known) (x := x) hc (check_ok hc2).2.2.2.2.2 71 (by decide))

 rw [hr] at HRD
 have d3 : decide (room ≤ (l.length : Int)) = false := decide_eq_false hf
 have d4 : decide ((l.length : Int) ≥ room) = false := decide_eq_false hf
 have HXF := Aside0.mk hxF
 have HXP := Aside0.mk hXP
 have HN := Aside0.mk hn
 have HBN := Aside0.mk hbn
 have HMON := Aside0.mk hmono
 have HBX : Aside0 (0 ≤ x.f1 ∧ x.f1 ≤ 1099511627776) := ⟨by have h_ := check_ok hc2; omega⟩
 have HCP := Aside0.mk (copy_is x (check_ok hc2).2.2.2.2.2)
 have HIX : Aside0 (cntX x l ≤ l.length) := ⟨List.countP_le_length⟩
 have HNO : Aside0 (keyOf x ∉ l.map keyOf) := ⟨of_decide_eq_false ho⟩
 clear hB hk hkc hx hx3 hs hc hc2 hw hwx ho hown hr hf hn hbn hmono hxF hXP
 go_enter Try.func13, Try.ntmps13
 go_wp2_with (first | ((with_reducible refine gate_dst (N := 5) rfl ?_); refine box_event ?hg (N := 5) ?hd (cs := #[.int .i64 x.f0.f0, .int .i64 x.f0.f1, .int .i64 x.f1, (.slice A3 x.f2.length c3), .int .i64 x.f3, .int .i64 x.f4.f0, .int .i64 x.f4.f1, .int .i64 x.f5.f0, .int .i64 x.f5.f1, .int .i64 x.f6.f0, .int .i64 x.f6.f1, .string x.f7, .string x.f8]) (t := 32) ?hr ?_; (case hd => rfl); (case hg => rfl); (case hr => first | (go_simp; done) | (go_simp; rfl)); intro gb hr_ w0 hbox hb; have HXgb := Aside0.mk hbox; have HBgb := Aside0.mk hb; have HNgb := Aside0.mk (Nat.le_of_eq hr_.symm); clear hbox hb hr_) | (go_at_call 33; (with_reducible refine (clock_Check.calls 66 A0 c0 known _ _ (Kd.C_below HK.out HBgb.out) HKC.out HCK.out).mono ?_); rintro e w1 ⟨rfl, ⟨nd, hnd⟩⟩; have HB1 := Aside0.mk (show Below w.heap.size w w1 by rw [hnd]; exact pw_below_drewN HBgb.out nd); have HX1 := Aside0.mk (show w1.heap[gb]? = some (.cells (chA x (.slice A3 x.f2.length c3)) 32 (0, 0)) by rw [hnd]; exact HXgb.out); clear hnd nd) | ((with_reducible refine gate_dst (N := 17) rfl ?_); refine load32_ev rfl (N := 17) rfl x (.slice A3 x.f2.length c3) (p := .tmp 5) rfl (ad := ⟨gb, 0, none⟩) rfl (blk_cells HX1.out) ?_) | (go_at_call 34; (with_reducible refine (change_Check.calls (x.f7.size + 200) x.f0.f0 x.f0.f1 x.f1 A3 c3 x.f2 x.f3 x.f4.f0 x.f4.f1 x.f5.f0 x.f5.f1 x.f6.f0 x.f6.f1 x.f7 x.f8 _ _ (Kd.C_below HC3.out HB1.out) HL3.out HCE.out).mono ?_); rintro e w2 ⟨rfl, hb2⟩; have HB2 := Aside0.mk (HB1.out.trans (hb2.mono HB1.out.size)); have HX2 := Aside0.mk (blk_below HX1.out hb2); clear hb2))

 refine start_ (n := 22) (S := (fun w' => w'.heap[gb]? = some (.cells (chA x (.slice A3 x.f2.length c3)) 32 (0, 0)) ∧ w'.cell? ⟨g, 2, none⟩ = some (.map (some mb)) ∧ w'.heap[mb]? = some (.map (es.map entE).toArray cc))) (ds := []) #[false, false, false, false, false, false, false, false, false, false, false, false, false, false, false, false, false, false, false, false, false, false] (by kernel_rfl) rfl rfl (⟨HX2.out, (blk_cell (blk_below HO.out.blk HB2.out) 2).trans rfl, blk_below HO.out.map (below_drew HB2.out)⟩) (fun hHeld => ?_)
 refine with_tabW tka.tab7 tka.bits7 (fun HT_ HW_ => ?_)
 refine pureS (i := 0) (N := (some 22)) #[true, false, false, false, false, false, false, false, false, false, false, false, false, false, false, false, false, false, false, false, false, false] HT_ ?_
 refine pureS (i := 2) (N := (some 24)) #[true, false, true, false, false, false, false, false, false, false, false, false, false, false, false, false, false, false, false, false, false, false] HT_ ?_
 refine pureS (i := 3) (N := (some 25)) #[true, false, true, true, false, false, false, false, false, false, false, false, false, false, false, false, false, false, false, false, false, false] HT_ ?_
 refine pureS (i := 4) (N := (some 26)) #[true, false, true, true, true, false, false, false, false, false, false, false, false, false, false, false, false, false, false, false, false, false] HT_ ?_
 refine take_ (i := 1) (N := (some 23)) (v := ?_) (a' := ?_) #[true, true, true, true, true, false, false, false, false, false, false, false, false, false, false, false, false, false, false, false, false, false] rfl rfl (take_ofW HT_.out HW_.out (by kernel_rfl)) (fun _ _ _ h => h) (Or.inl ⟨by rfl, ?_⟩) hHeld ?_ ?_
 rotate_left
 ·rintro w' ⟨s0, s1, s2⟩; have f1 : w'.cell? ⟨gb, 2, none⟩ = some (.int .i64 x.f1) := (blk_cell s0 2).trans rfl; have f2 : w'.cell? ⟨gb, 1, none⟩ = some (.int .i64 x.f0.f1) := (blk_cell s0 1).trans rfl
  go_simp
  with_reducible rfl
 rotate_left
 ·simp only [Act.put, List.setIfInBounds_toArray, List.set_cons_zero, List.set_cons_succ, i64_w, i32_w]
  rfl
 refine take_ (i := 5) (N := (some 27)) (v := ?_) (a' := ?_) #[true, true, true, true, true, true, false, false, false, false, false, false, false, false, false, false, false, false, false, false, false, false] rfl rfl (take_ofW HT_.out HW_.out (by kernel_rfl)) (fun _ _ _ h => h) (Or.inl ⟨by rfl, ?_⟩) hHeld ?_ ?_
 rotate_left
 ·rintro w' ⟨s0, s1, s2⟩; have f1 : w'.cell? ⟨gb, 2, none⟩ = some (.int .i64 x.f1) := (blk_cell s0 2).trans rfl; have f2 : w'.cell? ⟨gb, 1, none⟩ = some (.int .i64 x.f0.f1) := (blk_cell s0 1).trans rfl
  go_simp
  with_reducible rfl
 rotate_left
 ·simp only [Act.put, List.setIfInBounds_toArray, List.set_cons_zero, List.set_cons_succ, i64_w, i32_w]
  rfl
 refine one_ (i := 6) (N := (some 28)) #[true, true, true, true, true, true, true, false, false, false, false, false, false, false, false, false, false, false, false, false, false, false] rfl rfl (one_of HT_.out (by kernel_rfl)) (by decide) (fun K hK => ?_)
 refine goes_ Try.func35 (by kernel_rfl) rfl #[.slice A0 known.length c0, .int .i64 x.f0.f1] (by rfl) rfl rfl (by (try simp only [List.map_toArray, List.map_cons, List.map_nil]); first | done | rfl) ?_
 refine (clock_At.calls A0 c0 known x.f0.f1 _ _ (Kd.C_drew (Kd.C_below HK.out HB2.out)) HKC.out HAT.out).mono ?_
 rintro e w3 ⟨rfl, ⟨nd2, hnd2⟩⟩
 refine ⟨_, rfl, ?_⟩
 have HB3 := Aside0.mk (show Below w.heap.size w w3 by rw [hnd2]; exact pw_below_drewN (below_drew HB2.out) nd2)
 have hS3 : (fun w' => w'.heap[gb]? = some (.cells (chA x (.slice A3 x.f2.length c3)) 32 (0, 0)) ∧ w'.cell? ⟨g, 2, none⟩ = some (.map (some mb)) ∧ w'.heap[mb]? = some (.map (es.map entE).toArray cc)) w3 := by rw [hnd2]; exact ⟨hHeld.1, hHeld.2.1, hHeld.2.2⟩
 clear hnd2
 refine hK.out _ _ (hS3) (fun hHeld => ?_)
 clear hK K
 refine norm_ (a' := ?_) ?_ ?_
 rotate_left
 ·show Act.put _ (some 28) _ = _
  simp only [Act.put, List.setIfInBounds_toArray, List.set_cons_zero, List.set_cons_succ, i64_w, i32_w]
  rfl
 refine pureS (i := 7) (N := (some 29)) #[true, true, true, true, true, true, true, true, false, false, false, false, false, false, false, false, false, false, false, false, false, false] HT_ ?_
 refine pureS (i := 8) (N := (some 30)) #[true, true, true, true, true, true, true, true, true, false, false, false, false, false, false, false, false, false, false, false, false, false] HT_ ?_
 refine pureS (i := 9) (N := (some 31)) #[true, true, true, true, true, true, true, true, true, true, false, false, false, false, false, false, false, false, false, false, false, false] HT_ ?_
 refine pureS (i := 10) (N := (some 32)) #[true, true, true, true, true, true, true, true, true, true, true, false, false, false, false, false, false, false, false, false, false, false] HT_ ?_
 refine pureS (i := 11) (N := (some 33)) #[true, true, true, true, true, true, true, true, true, true, true, true, false, false, false, false, false, false, false, false, false, false] HT_ ?_
 refine pureS (i := 12) (N := (some 34)) #[true, true, true, true, true, true, true, true, true, true, true, true, true, false, false, false, false, false, false, false, false, false] HT_ ?_
 refine pureS (i := 13) (N := (some 35)) #[true, true, true, true, true, true, true, true, true, true, true, true, true, true, false, false, false, false, false, false, false, false] HT_ ?_
 refine pureS (i := 14) (N := (some 36)) #[true, true, true, true, true, true, true, true, true, true, true, true, true, true, true, false, false, false, false, false, false, false] HT_ ?_
 refine take_ (i := 15) (N := (some 37)) (v := ?_) (a' := ?_) #[true, true, true, true, true, true, true, true, true, true, true, true, true, true, true, true, false, false, false, false, false, false] rfl rfl (take_ofW HT_.out HW_.out (by kernel_rfl)) (fun _ _ _ h => h) (Or.inl ⟨by rfl, ?_⟩) hHeld ?_ ?_
 rotate_left
 ·rintro w' ⟨s0, s1, s2⟩; have f1 : w'.cell? ⟨gb, 2, none⟩ = some (.int .i64 x.f1) := (blk_cell s0 2).trans rfl; have f2 : w'.cell? ⟨gb, 1, none⟩ = some (.int .i64 x.f0.f1) := (blk_cell s0 1).trans rfl
  go_simp
  with_reducible rfl
 rotate_left
 ·simp only [Act.put, List.setIfInBounds_toArray, List.set_cons_zero, List.set_cons_succ, i64_w, i32_w]
  rfl
 refine take_ (i := 16) (N := (some 38)) (v := ?_) (a' := ?_) #[true, true, true, true, true, true, true, true, true, true, true, true, true, true, true, true, true, false, false, false, false, false] rfl rfl (take_ofW HT_.out HW_.out (by kernel_rfl)) (fun _ _ _ h => h) (Or.inl ⟨by rfl, ?_⟩) hHeld ?_ ?_
 rotate_left
 ·rintro w' ⟨s0, s1, s2⟩
  refine Eq.trans (load32_run (x := x) (v := (.slice A3 x.f2.length c3)) _ (p := .tmp 5) ?ho_ ?hp_ (blk_cells s0)) ?hr_
  case ho_ => rfl
  case hp_ => rfl
  case hr_ => rfl
 rotate_left
 ·simp only [Act.put, List.setIfInBounds_toArray, List.set_cons_zero, List.set_cons_succ, i64_w, i32_w]
  rfl
 refine one_ (i := 17) (N := (some 39)) #[true, true, true, true, true, true, true, true, true, true, true, true, true, true, true, true, true, true, false, false, false, false] rfl rfl (one_of HT_.out (by kernel_rfl)) (by decide) (fun K hK => ?_)
 refine goes_ Try.func36 (by kernel_rfl) rfl #[(.agg #[.int .i64 x.f0.f0, .int .i64 x.f0.f1, .int .i64 x.f1, (.slice A3 x.f2.length c3), .int .i64 x.f3, .int .i64 x.f4.f0, .int .i64 x.f4.f1, .int .i64 x.f5.f0, .int .i64 x.f5.f1, .int .i64 x.f6.f0, .int .i64 x.f6.f1, .string x.f7, .string x.f8])] (by rfl) rfl rfl (by (try simp only [List.map_toArray, List.map_cons, List.map_nil]); first | done | rfl) ?_
 refine (causal_of.calls x.f0.f0 x.f0.f1 x.f1 A3 c3 x.f2 x.f3 x.f4.f0 x.f4.f1 x.f5.f0 x.f5.f1 x.f6.f0 x.f6.f1 x.f7 x.f8 x.f0.f1 x.f1 _ (Kd.C_below HC3.out HB3.out) HL3.out rfl).mono ?_
 rintro e w4 ⟨rfl, hb4⟩
 refine ⟨_, rfl, ?_⟩
 have hS4 : (fun w' => w'.heap[gb]? = some (.cells (chA x (.slice A3 x.f2.length c3)) 32 (0, 0)) ∧ w'.cell? ⟨g, 2, none⟩ = some (.map (some mb)) ∧ w'.heap[mb]? = some (.map (es.map entE).toArray cc)) w4 := ⟨blk_below hHeld.1 hb4, (hb4.cell (World.block_lt_of_cell? _ _ hHeld.2.1)).trans hHeld.2.1, blk_below hHeld.2.2 hb4⟩
 have HB4 := Aside0.mk (HB3.out.trans (hb4.mono HB3.out.size))
 clear hb4
 refine hK.out _ _ (hS4) (fun hHeld => ?_)
 clear hK K
 refine norm_ (a' := ?_) ?_ ?_
 rotate_left
 ·show Act.put _ (some 39) _ = _
  simp only [Act.put, List.setIfInBounds_toArray, List.set_cons_zero, List.set_cons_succ, i64_w, i32_w]
  rfl
 refine take_ (i := 18) (N := (some 40)) (v := ?_) (a' := ?_) #[true, true, true, true, true, true, true, true, true, true, true, true, true, true, true, true, true, true, true, false, false, false] rfl rfl (take_ofW HT_.out HW_.out (by kernel_rfl)) (fun _ _ _ h => h) (Or.inl ⟨by rfl, ?_⟩) hHeld ?_ ?_
 rotate_left
 ·rintro w' ⟨s0, s1, s2⟩
  have hl_ : (Instr.lookup 69 (.map (some mb)) (.agg #[.int .i64 x.f0.f1, .int .i64 x.f1]) false).run Try.prog w' = .ok (.int .i64 0) w' := by
   have h_ := look_run (show MapE w' mb es cc from s2) (keyOf x)
   rw [HOWN.out] at h_
   exact h_
  go_simp
  rfl
 rotate_left
 ·simp only [Act.put, List.setIfInBounds_toArray, List.set_cons_zero, List.set_cons_succ, i64_w, i32_w]
  rfl
 refine pureS (i := 19) (N := (some 41)) #[true, true, true, true, true, true, true, true, true, true, true, true, true, true, true, true, true, true, true, true, false, false] HT_ ?_
 refine pureS (i := 20) (N := (some 42)) #[true, true, true, true, true, true, true, true, true, true, true, true, true, true, true, true, true, true, true, true, true, false] HT_ ?_
 refine pureS (i := 21) (N := (some 43)) #[true, true, true, true, true, true, true, true, true, true, true, true, true, true, true, true, true, true, true, true, true, true] HT_ ?_
 refine done_ (done_of HT_.out (by kernel_rfl)) ?_
 have HX4 := Aside0.mk hS4.1
 clear hS4 hS3 hHeld

 go_wp2_with (first | ((with_reducible refine gate_dst (N := 45) rfl ?_); refine load32_ev rfl (N := 45) rfl x (.slice A3 x.f2.length c3) (p := .tmp 5) rfl (ad := ⟨gb, 0, none⟩) rfl (blk_cells HX4.out) ?_) | (go_at_call 37; (with_reducible refine (causal_ready.calls 71 A0 c0 known x.f0.f0 x.f0.f1 x.f1 A3 c3 x.f2 x.f3 x.f4.f0 x.f4.f1 x.f5.f0 x.f5.f1 x.f6.f0 x.f6.f1 x.f7 x.f8 _ _ (Kd.C_below HK.out HB4.out) HKC.out (Kd.C_below HC3.out HB4.out) HL3.out HRD.out).mono ?_); rintro e w5 ⟨rfl, hb5⟩; have HB5 := Aside0.mk (HB4.out.trans (hb5.mono HB4.out.size)); have HX5 := Aside0.mk (blk_below HX4.out hb5); clear hb5) | (go_at_call 16; (with_reducible refine (len_calls (HBUF.out.below HB5.out)).mono ?_); rintro e w6 ⟨rfl, rfl⟩) | (go_at_call 40; (with_reducible refine (room_calls (HBUF.out.below HB5.out)).mono ?_); rintro e w7 ⟨rfl, rfl⟩))
 refine start_ (n := 11) (S := (fun w' => w'.cell? ⟨g, 1, none⟩ = some (.slice A l.length ch) ∧ w'.heap[gb]? = some (.cells (chA x (.slice A3 x.f2.length c3)) 32 (0, 0)))) (ds := []) #[false, false, false, false, false, false, false, false, false, false, false] (by kernel_rfl) rfl rfl (⟨(blk_cell (blk_below HO.out.blk HB5.out) 1).trans rfl, HX5.out⟩) (fun hHeld => ?_)
 refine with_tabW tkb.tab13 tkb.bits13 (fun HT_ HW_ => ?_)
 refine pureS (i := 0) (N := (some 58)) #[true, false, false, false, false, false, false, false, false, false, false] HT_ ?_
 refine pureS (i := 1) (N := (some 59)) #[true, true, false, false, false, false, false, false, false, false, false] HT_ ?_
 refine pureS (i := 2) (N := (some 60)) #[true, true, true, false, false, false, false, false, false, false, false] HT_ ?_
 refine take_ (i := 3) (N := (some 61)) (v := ?_) (a' := ?_) #[true, true, true, true, false, false, false, false, false, false, false] rfl rfl (take_ofW HT_.out HW_.out (by kernel_rfl)) (fun _ _ _ h => h) (Or.inl ⟨by rfl, ?_⟩) hHeld ?_ ?_
 rotate_left
 ·rintro w' ⟨s0, s1⟩
  go_simp
  with_reducible rfl
 rotate_left
 ·simp only [Act.put, List.setIfInBounds_toArray, List.set_cons_zero, List.set_cons_succ, i64_w, i32_w]
  rfl
 refine take_ (i := 4) (N := (some 62)) (v := ?_) (a' := ?_) #[true, true, true, true, true, false, false, false, false, false, false] rfl rfl (take_ofW HT_.out HW_.out (by kernel_rfl)) (fun _ _ _ h => h) (Or.inl ⟨by rfl, ?_⟩) hHeld ?_ ?_
 rotate_left
 ·rintro w' ⟨s0, s1⟩
  refine Eq.trans (load32_run (x := x) (v := (.slice A3 x.f2.length c3)) _ (p := .tmp 5) ?ho_ ?hp_ (blk_cells s1)) ?hr_
  case ho_ => rfl
  case hp_ => rfl
  case hr_ => rfl
 rotate_left
 ·simp only [Act.put, List.setIfInBounds_toArray, List.set_cons_zero, List.set_cons_succ, i64_w, i32_w]
  rfl
 refine one_ (i := 5) (N := (some 63)) #[true, true, true, true, true, true, false, false, false, false, false] rfl rfl (one_of HT_.out (by kernel_rfl)) (by decide) (fun K hK => ?_)
 refine goes_ Try.func41 (by kernel_rfl) rfl #[.slice A l.length ch, (.agg #[.int .i64 x.f0.f0, .int .i64 x.f0.f1, .int .i64 x.f1, (.slice A3 x.f2.length c3), .int .i64 x.f3, .int .i64 x.f4.f0, .int .i64 x.f4.f1, .int .i64 x.f5.f0, .int .i64 x.f5.f1, .int .i64 x.f6.f0, .int .i64 x.f6.f1, .string x.f7, .string x.f8]), .func (.func 42) #[] #[]] (by rfl) rfl rfl (by (try simp only [List.map_toArray, List.map_cons, List.map_nil]); first | done | rfl) ?_
 refine (search_calls (Kd.S_below HO.out.row (below_drew HB5.out)) HN.out x A3 c3 (Kd.C_below HC3.out (below_drew HB5.out)) HL3.out HBN.out HBX.out HMON.out).mono ?_
 rintro e w6 ⟨bf, rfl, hb6⟩
 refine ⟨_, rfl, ?_⟩
 have hS6 : (fun w' => w'.cell? ⟨g, 1, none⟩ = some (.slice A l.length ch) ∧ w'.heap[gb]? = some (.cells (chA x (.slice A3 x.f2.length c3)) 32 (0, 0))) w6 := ⟨(hb6.cell (World.block_lt_of_cell? _ _ hHeld.1)).trans hHeld.1, blk_below hHeld.2 hb6⟩
 have HB6 := Aside0.mk ((below_drew HB5.out).trans (hb6.mono (below_drew HB5.out).size))
 clear hb6
 refine hK.out _ _ (hS6) (fun hHeld => ?_)
 clear hK K
 refine norm_ (a' := ?_) ?_ ?_
 rotate_left
 ·show Act.put _ (some 63) _ = _
  simp only [Act.put, List.setIfInBounds_toArray, List.set_cons_zero, List.set_cons_succ, i64_w, i32_w]
  rfl
 refine pureS (i := 6) (N := (some 57)) #[true, true, true, true, true, true, true, false, false, false, false] HT_ ?_
 refine pureS (i := 7) (N := (some 64)) #[true, true, true, true, true, true, true, true, false, false, false] HT_ ?_
 refine pureS (i := 8) (N := (some 65)) #[true, true, true, true, true, true, true, true, true, false, false] HT_ ?_
 refine pureS (i := 9) (N := (some 10)) #[true, true, true, true, true, true, true, true, true, true, false] HT_ ?_
 refine pureS (i := 10) (N := (some 11)) #[true, true, true, true, true, true, true, true, true, true, true] HT_ ?_
 refine done_ (done_of HT_.out (by kernel_rfl)) ?_
 go_wp2_with (fail)
 refine start_ (n := 13) (S := (fun w' => w'.cell? ⟨g, 1, none⟩ = some (.slice A l.length ch) ∧ w'.heap[gb]? = some (.cells (chA x (.slice A3 x.f2.length c3)) 32 (0, 0)))) (ds := [12]) #[false, false, false, false, false, false, false, false, false, false, false, false, false] (by kernel_rfl) rfl rfl (⟨hS6.1, hS6.2⟩) (fun hHeld => ?_)
 refine with_tabW tkc.tab14 tkc.bits14 (fun HT_ HW_ => ?_)
 refine pureS (i := 0) (N := (some 66)) #[true, false, false, false, false, false, false, false, false, false, false, false, false] HT_ ?_
 refine pureS (i := 1) (N := (some 67)) #[true, true, false, false, false, false, false, false, false, false, false, false, false] HT_ ?_
 refine pureS (i := 2) (N := (some 68)) #[true, true, true, false, false, false, false, false, false, false, false, false, false] HT_ ?_
 refine pureS (i := 3) (N := (some 69)) #[true, true, true, true, false, false, false, false, false, false, false, false, false] HT_ ?_
 refine pureS (i := 5) (N := (some 71)) #[true, true, true, true, false, true, false, false, false, false, false, false, false] HT_ ?_
 refine take_ (i := 4) (N := (some 70)) (v := ?_) (a' := ?_) #[true, true, true, true, true, true, false, false, false, false, false, false, false] rfl rfl (take_ofW HT_.out HW_.out (by kernel_rfl)) (fun _ _ _ h => h) (Or.inl ⟨by rfl, ?_⟩) hHeld ?_ ?_
 rotate_left
 ·rintro w' ⟨s0, s1⟩
  go_simp
  with_reducible rfl
 rotate_left
 ·simp only [Act.put, List.setIfInBounds_toArray, List.set_cons_zero, List.set_cons_succ, i64_w, i32_w]
  rfl
 refine take_ (i := 6) (N := (some 72)) (v := ?_) (a' := ?_) #[true, true, true, true, true, true, true, false, false, false, false, false, false] rfl rfl (take_ofW HT_.out HW_.out (by kernel_rfl)) (fun _ _ _ h => h) (Or.inl ⟨by rfl, ?_⟩) hHeld ?_ ?_
 rotate_left
 ·rintro w' ⟨s0, s1⟩
  refine Eq.trans (load32_run (x := x) (v := (.slice A3 x.f2.length c3)) _ (p := .tmp 5) ?ho_ ?hp_ (blk_cells s1)) ?hr_
  case ho_ => rfl
  case hp_ => rfl
  case hr_ => rfl
 rotate_left
 ·simp only [Act.put, List.setIfInBounds_toArray, List.set_cons_zero, List.set_cons_succ, i64_w, i32_w]
  rfl
 refine one_ (i := 7) (N := (some 73)) #[true, true, true, true, true, true, true, true, false, false, false, false, false] rfl rfl (one_of HT_.out (by kernel_rfl)) (by decide) (fun K hK => ?_)
 refine goes_ Try.func39 (by kernel_rfl) rfl #[(.agg #[.int .i64 x.f0.f0, .int .i64 x.f0.f1, .int .i64 x.f1, (.slice A3 x.f2.length c3), .int .i64 x.f3, .int .i64 x.f4.f0, .int .i64 x.f4.f1, .int .i64 x.f5.f0, .int .i64 x.f5.f1, .int .i64 x.f6.f0, .int .i64 x.f6.f1, .string x.f7, .string x.f8])] (by rfl) rfl rfl (by (try simp only [List.map_toArray, List.map_cons, List.map_nil]); first | done | rfl) ?_
 refine (change_Copy.calls x.f0.f0 x.f0.f1 x.f1 A3 c3 x.f2 x.f3 x.f4.f0 x.f4.f1 x.f5.f0 x.f5.f1 x.f6.f0 x.f6.f1 x.f7 x.f8 x.f0.f0 x.f0.f1 x.f1 x.f2 x.f3 x.f4.f0 x.f4.f1 x.f5.f0 x.f5.f1 x.f6.f0 x.f6.f1 x.f7 x.f8 _ (Kd.C_below HC3.out (below_drew HB6.out)) HL3.out HCP.out).mono ?_
 rintro e w7 ⟨v7, rfl, hv7, hb7⟩
 obtain ⟨A7, c7, rfl⟩ := Kd.R_slice hv7
 refine ⟨_, rfl, ?_⟩
 have hS7 : (fun w' => w'.cell? ⟨g, 1, none⟩ = some (.slice A l.length ch) ∧ w'.heap[gb]? = some (.cells (chA x (.slice A3 x.f2.length c3)) 32 (0, 0))) w7 := ⟨(hb7.cell (World.block_lt_of_cell? _ _ hHeld.1)).trans hHeld.1, blk_below hHeld.2 hb7⟩
 have HV7 := Aside0.mk (Kd.R_mono (Kd.R_bound hv7) (ok' := fun k => w6.drew.heap.size ≤ k ∧ k < w7.heap.size) (fun k hk => ⟨hk.2.1, hk.2.2.1⟩))
 have HB7 := Aside0.mk ((below_drew HB6.out).trans (hb7.mono (below_drew HB6.out).size))
 clear hv7 hb7
 refine hK.out _ _ (hS7) (fun hHeld => ?_)
 clear hK K
 refine norm_ (a' := ?_) ?_ ?_
 rotate_left
 ·show Act.put _ (some 73) _ = _
  simp only [Act.put, List.setIfInBounds_toArray, List.set_cons_zero, List.set_cons_succ, i64_w, i32_w]
  rfl
 refine one_ (i := 8) (N := (some 74)) #[true, true, true, true, true, true, true, true, true, false, false, false, false] rfl rfl (one_of HT_.out (by kernel_rfl)) (by decide) (fun K hK => ?_)
 refine value_ (w1 := ?_) (v := ?_) (by rfl) rfl ?_ ?_
 rotate_left 2
 ·go_simp
  constructor
  ·rfl
  ·rfl
 refine hK.out _ _ (⟨Mem.cell_alloc hHeld.1 _, Mem.alloc_old hHeld.2 _⟩) (fun hHeld => ?_)
 clear hK K
 refine norm_ (a' := ?_) ?_ ?_
 rotate_left
 ·show Act.put _ (some 74) _ = _
  simp only [Act.put, List.setIfInBounds_toArray, List.set_cons_zero, List.set_cons_succ, i64_w, i32_w]
  rfl
 refine one_ (i := 9) (N := (some 75)) #[true, true, true, true, true, true, true, true, true, true, false, false, false] rfl rfl (one_of HT_.out (by kernel_rfl)) (by decide) (fun K hK => ?_)
 refine goes_ Try.func43 (by kernel_rfl) rfl #[.slice A l.length ch, .int .i64 ((cntX x l : Nat) : Int), .slice (some ⟨w7.heap.size, 0, none⟩) 1 1] (by rfl) rfl rfl (by (try simp only [List.map_toArray, List.map_cons, List.map_nil]); first | done | rfl) ?_
 refine (put_insert HO.out HB6.out HB7.out HV7.out HIX.out HN.out).mono ?_
 rintro e w9 ⟨v9, rfl, hs9, hg9⟩
 refine ⟨_, rfl, ?_⟩
 obtain ⟨A9, c9, rfl⟩ := Kd.S_slice hs9
 have hgo := put_ne HO.out
 have hgbn := put_ne2 HO.out HNgb.out
 have hS9 : (fun w' => w'.cell? ⟨g, 1, none⟩ = some (.slice A l.length ch) ∧ w'.heap[gb]? = some (.cells (chA x (.slice A3 x.f2.length c3)) 32 (0, 0))) w9 := ⟨hg9.cell hHeld.1 hgo, blk_grown hHeld.2 hg9 hgbn⟩
 have HS9 := Aside0.mk hs9
 have HG9 := Aside0.mk hg9
 have cz := hS9.1
 have fz := blk_frozen (blk_grown (put_blk HO.out HB7.out) hg9 hgo) 1
 clear hs9 hg9 hgo hgbn
 refine hK.out _ _ (hS9) (fun hHeld => ?_)
 clear hK K
 refine norm_ (a' := ?_) ?_ ?_
 rotate_left
 ·show Act.put _ (some 75) _ = _
  simp only [Act.put, List.setIfInBounds_toArray, List.set_cons_zero, List.set_cons_succ, i64_w, i32_w]
  rfl
 refine pureS (i := 10) (N := (some 76)) #[true, true, true, true, true, true, true, true, true, true, true, false, false] HT_ ?_
 refine pureS (i := 11) (N := (some 77)) #[true, true, true, true, true, true, true, true, true, true, true, true, false] HT_ ?_
 refine last_ (i := 12) (N := none) #[true, true, true, true, true, true, true, true, true, true, true, true, true] rfl rfl (one_of HT_.out (by kernel_rfl)) (by decide) (fun K hK => ?_)
 refine skip_ (w1 := w9.setCell ⟨g, 1, none⟩ (.slice A9 (l.take (cntX x l) ++ x :: l.drop (cntX x l)).length c9)) (by rfl) rfl ?_ ?_
 ·go_simp
 refine hK.out _ _ ?_
 clear hK K
 refine done_ (done_of HT_.out (by kernel_rfl)) ?_
 have hmid := put_mid (A9 := A9) (c9 := c9) HO.out HB7.out HS9.out HG9.out
 have hX10 := blk_far (p := ⟨g, 1, none⟩) hS9.2 (fun e => by have h1_ := blk_lt HO.out.blk; have h2_ := HNgb.out; have h3_ : gb = g := e; omega) (.slice A9 (l.take (cntX x l) ++ x :: l.drop (cntX x l)).length c9)
 clear hHeld hS9 hS7 hS6 cz fz HS9 HG9
 generalize w9.setCell ⟨g, 1, none⟩ (.slice A9 (l.take (cntX x l) ++ x :: l.drop (cntX x l)).length c9) = w10 at *
 have HMID := Aside0.mk hmid
 have HX10 := Aside0.mk hX10
 have HC10 := Aside0.mk (Kd.C_drew (Kd.F_now (Kd.F_kept HXF.out hmid.kept.old HXP.out)))
 have hfp : findP es (keyOf x) 0 = none := findP_none (fun hm => HNO.out ((HO.out.ok.mem _).1 hm))
 have HFP := Aside0.mk hfp
 clear hmid hX10 hfp
 go_wp2_with (fail)
 refine start_ (n := 11) (S := (fun w' => w'.heap[gb]? = some (.cells (chA x (.slice A3 x.f2.length c3)) 32 (0, 0)) ∧ w'.cell? ⟨g, 2, none⟩ = some (.map (some mb)))) (ds := []) #[false, false, false, false, false, false, false, false, false, false, false] (by kernel_rfl) rfl rfl (⟨HX10.out, (blk_cell HMID.out.blk 2).trans rfl⟩) (fun hHeld => ?_)
 refine with_tabW tkd.tab15 tkd.bits15 (fun HT_ HW_ => ?_)
 refine pureS (i := 0) (N := (some 78)) #[true, false, false, false, false, false, false, false, false, false, false] HT_ ?_
 refine pureS (i := 1) (N := (some 79)) #[true, true, false, false, false, false, false, false, false, false, false] HT_ ?_
 refine pureS (i := 2) (N := (some 80)) #[true, true, true, false, false, false, false, false, false, false, false] HT_ ?_
 refine take_ (i := 3) (N := (some 81)) (v := ?_) (a' := ?_) #[true, true, true, true, false, false, false, false, false, false, false] rfl rfl (take_ofW HT_.out HW_.out (by kernel_rfl)) (fun _ _ _ h => h) (Or.inl ⟨by rfl, ?_⟩) hHeld ?_ ?_
 rotate_left
 ·rintro w' ⟨s0, s1⟩
  go_simp
  with_reducible rfl
 rotate_left
 ·simp only [Act.put, List.setIfInBounds_toArray, List.set_cons_zero, List.set_cons_succ, i64_w, i32_w]
  rfl
 refine take_ (i := 4) (N := (some 82)) (v := ?_) (a' := ?_) #[true, true, true, true, true, false, false, false, false, false, false] rfl rfl (take_ofW HT_.out HW_.out (by kernel_rfl)) (fun _ _ _ h => h) (Or.inl ⟨by rfl, ?_⟩) hHeld ?_ ?_
 rotate_left
 ·rintro w' ⟨s0, s1⟩
  refine Eq.trans (load32_run (x := x) (v := (.slice A3 x.f2.length c3)) _ (p := .tmp 5) ?ho_ ?hp_ (blk_cells s0)) ?hr_
  case ho_ => rfl
  case hp_ => rfl
  case hr_ => rfl
 rotate_left
 ·simp only [Act.put, List.setIfInBounds_toArray, List.set_cons_zero, List.set_cons_succ, i64_w, i32_w]
  rfl
 refine one_ (i := 5) (N := (some 83)) #[true, true, true, true, true, true, false, false, false, false, false] rfl rfl (one_of HT_.out (by kernel_rfl)) (by decide) (fun K hK => ?_)
 refine goes_ Try.func36 (by kernel_rfl) rfl #[(.agg #[.int .i64 x.f0.f0, .int .i64 x.f0.f1, .int .i64 x.f1, (.slice A3 x.f2.length c3), .int .i64 x.f3, .int .i64 x.f4.f0, .int .i64 x.f4.f1, .int .i64 x.f5.f0, .int .i64 x.f5.f1, .int .i64 x.f6.f0, .int .i64 x.f6.f1, .string x.f7, .string x.f8])] (by rfl) rfl rfl (by (try simp only [List.map_toArray, List.map_cons, List.map_nil]); first | done | rfl) ?_
 refine (causal_of.calls x.f0.f0 x.f0.f1 x.f1 A3 c3 x.f2 x.f3 x.f4.f0 x.f4.f1 x.f5.f0 x.f5.f1 x.f6.f0 x.f6.f1 x.f7 x.f8 x.f0.f1 x.f1 _ HC10.out HL3.out rfl).mono ?_
 rintro e w11 ⟨rfl, hb11⟩
 refine ⟨_, rfl, ?_⟩
 have hS11 : (fun w' => w'.heap[gb]? = some (.cells (chA x (.slice A3 x.f2.length c3)) 32 (0, 0)) ∧ w'.cell? ⟨g, 2, none⟩ = some (.map (some mb))) w11 := ⟨blk_below hHeld.1 hb11, (hb11.cell (World.block_lt_of_cell? _ _ hHeld.2)).trans hHeld.2⟩
 have HB11 := Aside0.mk ((below_drew (Below.refl w10.heap.size w10)).trans (hb11.mono (Nat.le_refl _)))
 have hM11 : MapE w11 mb es cc := blk_below (w := w10) HMID.out.map HB11.out
 have hl_ : (Instr.lookup 69 (.map (some mb)) (.agg #[.int .i64 x.f0.f1, .int .i64 x.f1]) false).run Try.prog w11 = .ok (.int .i64 0) w11 := by
  have h_ := look_run hM11 (keyOf x)
  rw [HOWN.out] at h_
  exact h_
 have he_ : (Instr.mapEntry 69 (.map (some mb)) (.agg #[.int .i64 x.f0.f1, .int .i64 x.f1])).run Try.prog w11 = .ok (.tuple #[.int .i64 0, .int .i64 (cc : Int)]) (w11.putObj mb (.map ((es ++ [((cc, keyOf x), 0)]).map entE).toArray (cc + 1))) := entry_run hM11 (keyOf x) HFP.out
 have hs_ : (Instr.entryStore 69 (.map (some mb)) (.int .i64 (cc : Int)) (.int .i64 1)).run Try.prog (w11.putObj mb (.map ((es ++ [((cc, keyOf x), 0)]).map entE).toArray (cc + 1))) = .ok () ((w11.putObj mb (.map ((es ++ [((cc, keyOf x), 0)]).map entE).toArray (cc + 1))).putObj mb (.map ((es ++ [((cc, keyOf x), 1)]).map entE).toArray (cc + 1))) := store_run (keyOf x) 1 HO.out.ok.born (putObj_at _ _ _ (blk_lt hM11))
 have hl2_ : (Instr.lookup 69 (.map (some mb)) (.agg #[.int .i64 x.f0.f1, .int .i64 x.f1]) false).run Try.prog (w11.putObj mb (.map ((es ++ [((cc, keyOf x), 0)]).map entE).toArray (cc + 1))) = .ok (.int .i64 0) (w11.putObj mb (.map ((es ++ [((cc, keyOf x), 0)]).map entE).toArray (cc + 1))) := by
  have h_ := look_run (show MapE _ mb (es ++ [((cc, keyOf x), 0)]) (cc + 1) from putObj_at _ _ _ (blk_lt hM11)) (keyOf x)
  rw [valP_new HFP.out] at h_
  exact h_
 obtain ⟨o1, ho1⟩ : ∃ o1, Obj.map ((es ++ [((cc, keyOf x), (0 : Int))]).map entE).toArray (cc + 1) = o1 := ⟨_, rfl⟩
 obtain ⟨o2, ho2⟩ : ∃ o2, Obj.map ((es ++ [((cc, keyOf x), (1 : Int))]).map entE).toArray (cc + 1) = o2 := ⟨_, rfl⟩
 rw [ho1] at he_ hs_ hl2_
 rw [ho2] at hs_
 have HO2 := Aside0.mk ho2
 have HX11 := Aside0.mk hS11
 have HM11 := Aside0.mk hM11
 have hw11 : wrap64 (1 : Int) = 1 := by rw [← i64_w]; rfl
 clear hb11 hM11 ho1 ho2
 refine hK.out _ _ (hS11) (fun hHeld => ?_)
 clear hK K
 refine norm_ (a' := ?_) ?_ ?_
 rotate_left
 ·show Act.put _ (some 83) _ = _
  simp only [Act.put, List.setIfInBounds_toArray, List.set_cons_zero, List.set_cons_succ, i64_w, i32_w]
  rfl
 refine two_ (i := 6) (j := 8) (Ni := (some 84)) (Nj := (some 86)) #[true, true, true, true, true, true, true, false, false, false, false] #[true, true, true, true, true, true, false, false, true, false, false] rfl rfl rfl rfl (two_of HT_.out (by kernel_rfl)) (by decide) (by decide) (fun K hK => ?_) (fun K hK => ?_)
 ·refine value_ (w1 := ?_) (v := ?_) (by rfl) rfl ?_ ?_
  rotate_left 2
  ·go_simp
   constructor
   ·rfl
   ·rfl
  refine hK.out _ _ (hS11) (fun hHeld => ?_)
  clear hK K
  refine norm_ (a' := ?_) ?_ ?_
  rotate_left
  ·show Act.put _ (some 84) _ = _
   simp only [Act.put, List.setIfInBounds_toArray, List.set_cons_zero, List.set_cons_succ, i64_w, i32_w]
   rfl
  refine pureS (i := 7) (N := (some 85)) #[true, true, true, true, true, true, true, true, false, false, false] HT_ ?_
  refine one_ (i := 8) (N := (some 86)) #[true, true, true, true, true, true, true, true, true, false, false] rfl rfl (one_of HT_.out (by kernel_rfl)) (by decide) (fun K hK => ?_)
  refine value_ (w1 := ?_) (v := ?_) (by rfl) rfl ?_ ?_
  rotate_left 2
  ·go_simp
   constructor
   ·rfl
   ·rfl
  refine hK.out _ _ (⟨(putObj_other _ _ _ _ (fun e => by have h1_ := blk_lt HO.out.map; have h2_ := HNgb.out; omega)).trans HX11.out.1, (World.cell?_of_block (putObj_other _ _ _ _ HO.out.ne)).trans HX11.out.2⟩) (fun hHeld => ?_)
  clear hK K
  refine norm_ (a' := ?_) ?_ ?_
  rotate_left
  ·show Act.put _ (some 86) _ = _
   simp only [Act.put, List.setIfInBounds_toArray, List.set_cons_zero, List.set_cons_succ, i64_w, i32_w]
   rfl
  refine pureS (i := 9) (N := (some 87)) #[true, true, true, true, true, true, true, true, true, true, false] HT_ ?_
  refine one_ (i := 10) (N := none) #[true, true, true, true, true, true, true, true, true, true, true] rfl rfl (one_of HT_.out (by kernel_rfl)) (by decide) (fun K hK => ?_)
  refine skip_ (w1 := ?_) (by rfl) rfl ?_ ?_
  rotate_left
  ·go_simp
   rfl
  refine hK.out _ _ (⟨(putObj_other _ _ _ _ (fun e => by have h1_ := blk_lt HO.out.map; have h2_ := HNgb.out; omega)).trans ((putObj_other _ _ _ _ (fun e => by have h1_ := blk_lt HO.out.map; have h2_ := HNgb.out; omega)).trans HX11.out.1), (World.cell?_of_block (putObj_other _ _ _ _ HO.out.ne)).trans ((World.cell?_of_block (putObj_other _ _ _ _ HO.out.ne)).trans HX11.out.2)⟩) (fun hHeld => ?_)
  clear hK K
  refine done_ (done_of HT_.out (by kernel_rfl)) ?_
  go_wp2_with (fail)
  go_ret2
  rw [← HO2.out]
  exact put_fin HO.out HMID.out HB11.out HNO.out
 ·refine value_ (w1 := ?_) (v := ?_) (by rfl) rfl ?_ ?_
  rotate_left 2
  ·go_simp
   constructor
   ·rfl
   ·rfl
  refine hK.out _ _ (⟨(putObj_other _ _ _ _ (fun e => by have h1_ := blk_lt HO.out.map; have h2_ := HNgb.out; omega)).trans HX11.out.1, (World.cell?_of_block (putObj_other _ _ _ _ HO.out.ne)).trans HX11.out.2⟩) (fun hHeld => ?_)
  clear hK K
  refine norm_ (a' := ?_) ?_ ?_
  rotate_left
  ·show Act.put _ (some 86) _ = _
   simp only [Act.put, List.setIfInBounds_toArray, List.set_cons_zero, List.set_cons_succ, i64_w, i32_w]
   rfl
  refine pureS (i := 9) (N := (some 87)) #[true, true, true, true, true, true, false, false, true, true, false] HT_ ?_
  refine one_ (i := 6) (N := (some 84)) #[true, true, true, true, true, true, true, false, true, true, false] rfl rfl (one_of HT_.out (by kernel_rfl)) (by decide) (fun K hK => ?_)
  refine value_ (w1 := ?_) (v := ?_) (by rfl) rfl ?_ ?_
  rotate_left 2
  ·go_simp
   constructor
   ·rfl
   ·rfl
  refine hK.out _ _ (⟨(putObj_other _ _ _ _ (fun e => by have h1_ := blk_lt HO.out.map; have h2_ := HNgb.out; omega)).trans HX11.out.1, (World.cell?_of_block (putObj_other _ _ _ _ HO.out.ne)).trans HX11.out.2⟩) (fun hHeld => ?_)
  clear hK K
  refine norm_ (a' := ?_) ?_ ?_
  rotate_left
  ·show Act.put _ (some 84) _ = _
   simp only [Act.put, List.setIfInBounds_toArray, List.set_cons_zero, List.set_cons_succ, i64_w, i32_w]
   rfl
  refine pureS (i := 7) (N := (some 85)) #[true, true, true, true, true, true, true, true, true, true, false] HT_ ?_
  refine one_ (i := 10) (N := none) #[true, true, true, true, true, true, true, true, true, true, true] rfl rfl (one_of HT_.out (by kernel_rfl)) (by decide) (fun K hK => ?_)
  refine skip_ (w1 := ?_) (by rfl) rfl ?_ ?_
  rotate_left
  ·go_simp
   rfl
  refine hK.out _ _ (⟨(putObj_other _ _ _ _ (fun e => by have h1_ := blk_lt HO.out.map; have h2_ := HNgb.out; omega)).trans ((putObj_other _ _ _ _ (fun e => by have h1_ := blk_lt HO.out.map; have h2_ := HNgb.out; omega)).trans HX11.out.1), (World.cell?_of_block (putObj_other _ _ _ _ HO.out.ne)).trans ((World.cell?_of_block (putObj_other _ _ _ _ HO.out.ne)).trans HX11.out.2)⟩) (fun hHeld => ?_)
  clear hK K
  refine done_ (done_of HT_.out (by kernel_rfl)) ?_
  go_wp2_with (fail)
  go_ret2
  rw [← HO2.out]
  exact put_fin HO.out HMID.out HB11.out HNO.out
def topiaryref05_Copy.f (a0_0 : Int) (a0_1 : Int) (a0_2 : Int) (l0_3 : List Int) (a0_4 : Int) (a0_5 : Int) (a0_6 : Int) (a0_7 : Int) (a0_8 : Int) (a0_9 : Int) (a0_10 : Int) (a0_11 : ByteArray) (a0_12 : ByteArray) : Option (Int × Int × Int × List Int × Int × Int × Int × Int × Int × Int × Int × ByteArray × ByteArray) := (some (([] : List Int) : List Int)).bind fun y236 => (if y236.length + l0_3.length < 17592186044416 then (some (a0_0, a0_1, a0_2, (y236 ++ l0_3), a0_4, a0_5, a0_6, a0_7, a0_8, a0_9, a0_10, a0_11, a0_12)) else (none))
def topiaryref09_tick.f (k : Nat) (l0 : List Int) (a1_0 : Int) (a1_1 : Int) (a1_2 : Int) (l1_3 : List Int) (a1_4 : Int) (a1_5 : Int) (a1_6 : Int) (a1_7 : Int) (a1_8 : Int) (a1_9 : Int) (a1_10 : Int) (a1_11 : ByteArray) (a1_12 : ByteArray) : Option (List Int) := (topiaryref02_Tick.f k l0 a1_1).bind fun bt491 => (some bt491.1)
theorem topiaryref09_tick.mono : ∀ a0 a1 a2 a3 a4 a5 a6 a7 a8 a9 a10 a11 a12 a13 k, LeO (topiaryref09_tick.f k a0 a1 a2 a3 a4 a5 a6 a7 a8 a9 a10 a11 a12 a13) (topiaryref09_tick.f (k + 1) a0 a1 a2 a3 a4 a5 a6 a7 a8 a9 a10 a11 a12 a13) := by
 intro a0 a1 a2 a3 a4 a5 a6 a7 a8 a9 a10 a11 a12 a13 k
 unfold topiaryref09_tick.f
 repeat' first
   | (with_reducible exact topiaryref02_Tick.mono _ _ _)
   | (with_reducible exact LeO.refl _)
   | (with_reducible exact LeO.none _)
   | (with_reducible refine LeO.ite ?_ ?_)
   | (with_reducible refine LeO.bind ?_ (fun _ => ?_))
   | exact topiaryref02_Tick.mono _ _ _
   | exact LeO.none _
   | refine LeO.ite ?_ ?_
   | refine LeO.bind ?_ (fun _ => ?_)
set_option maxHeartbeats 8000000 in
set_option maxRecDepth 100000 in
theorem topiaryref09_tick.calls (k : Nat) (A0 : Option Addr) (c0 : Nat) (l0 : List Int) (a1_0 : Int) (a1_1 : Int) (a1_2 : Int) (A1_3 : Option Addr) (c1_3 : Nat) (l1_3 : List Int) (a1_4 : Int) (a1_5 : Int) (a1_6 : Int) (a1_7 : Int) (a1_8 : Int) (a1_9 : Int) (a1_10 : Int) (a1_11 : ByteArray) (a1_12 : ByteArray) (r : List Int) (w : World) (hr0 : Kd.C (Kd.int .i64) w A0 l0.length l0) (hc0 : l0.length ≤ c0) (hr1_3 : Kd.C (Kd.int .i64) w A1_3 l1_3.length l1_3) (hc1_3 : l1_3.length ≤ c1_3) (h : topiaryref09_tick.f k l0 a1_0 a1_1 a1_2 l1_3 a1_4 a1_5 a1_6 a1_7 a1_8 a1_9 a1_10 a1_11 a1_12 = some r) :
  Calls Try.prog 53 #[.slice A0 l0.length c0, .agg #[.int .i64 a1_0, .int .i64 a1_1, .int .i64 a1_2, .slice A1_3 l1_3.length c1_3, .int .i64 a1_4, .int .i64 a1_5, .int .i64 a1_6, .int .i64 a1_7, .int .i64 a1_8, .int .i64 a1_9, .int .i64 a1_10, .string a1_11, .string a1_12]] w fun e w' => ∃ v0_ : Value, e = .returned (v0_) ∧ Kd.R (Kd.int .i64) 3 w' w.heap.size (fun _ => True) v0_ r ∧ Below w.heap.size w w' := by
 have hu32 := Try.underlying32
 have HR0 := Aside0.mk hr0
 have HC0 := Aside0.mk hc0
 clear hr0 hc0
 have HR1_3 := Aside0.mk hr1_3
 have HC1_3 := Aside0.mk hc1_3
 clear hr1_3 hc1_3
 have HB := Aside0.mk (Below.refl w.heap.size w)
 have H : ((topiaryref02_Tick.f k l0 a1_1).bind fun bt491 => (some bt491.1)) = some r := h
 clear h
 replace H := Option.bind_eq_some_iff.mp H
 obtain ⟨⟨t491, t492⟩, A30, H⟩ := H
 replace H : (some t491) = some r := H
 have A3 := Aside0.mk A30
 clear A30
 obtain rfl := Option.some.inj H
 go_enter Try.func53, Try.ntmps53
 go_wp2_with (first | ((with_reducible refine gate_dst (N := 3) rfl ?_); refine box_event ?hg (N := 3) ?hd (cs := #[.int .i64 a1_0, .int .i64 a1_1, .int .i64 a1_2, .slice A1_3 l1_3.length c1_3, .int .i64 a1_4, .int .i64 a1_5, .int .i64 a1_6, .int .i64 a1_7, .int .i64 a1_8, .int .i64 a1_9, .int .i64 a1_10, .string a1_11, .string a1_12]) (t := 32) ?hr ?_; (case hd => rfl); (case hg => rfl); (case hr => first | (go_simp; done) | (go_simp; rfl)); intro gb490 hg w4 hbox hb; have n0_ := Aside0.mk (below_step (by repeat (first | (with_reducible first | exact HB.out | apply below_alloc | apply pw_below_drewN | apply below_drew1) | exact HB.out)) hb); have n1_ := Aside0.mk (hbox); have n2_ := Aside0.mk ((by rw [hg]; exact (below_size (by repeat (first | (with_reducible first | exact HB.out | apply below_alloc | apply pw_below_drewN | apply below_drew1) | exact HB.out))) : w.heap.size ≤ gb490)); have n3_ := Aside0.mk ((by rw [hg]; exact (below_size (by repeat (first | (with_reducible first | exact HB.out | apply below_alloc | apply pw_below_drewN | apply below_drew1) | exact HB.out))) : w.heap.size ≤ gb490)); clear HB; have HB := n0_; have BK490 := n1_; have GW490 := n2_; have GE490 := n3_; clear n0_ n1_ n2_ n3_; clear hb hbox hg; obtain ⟨hcz5_0, hcz5_1, hcz5_2, hcz5_3, hcz5_4, hcz5_5, hcz5_6, hcz5_7, hcz5_8, hcz5_9, hcz5_10, hcz5_11, hcz5_12⟩ := cells13 BK490.out) | ((with_reducible refine gate_callee (f := 21) rfl ?_); refine goesL_ (some 12) rfl rfl Try.func21 (by kernel_rfl) rfl #[.slice A0 l0.length c0, .int .i64 a1_1] rfl (by (try simp only [List.map_toArray, List.map_cons, List.map_nil]); first | done | rfl | (simp only [List.length_drop, List.length_take]; rfl)) ?_; (with_reducible refine (topiaryref02_Tick.calls k _ _ l0 a1_1 t491 t492 _ ?side1 ?side2 A3.out).mono ?_); (case side1 => repeat (first | exact (Kd.C_below HR0.out HB.out) | (with_reducible refine Kd.C_alloc ?_ _) | (with_reducible refine Kd.C_drewN ?_ _) | (with_reducible refine Kd.C_drew ?_))); (case side2 => exact HC0.out); rintro e w6 ⟨v493, rfl, ho0, hb⟩; refine ⟨_, rfl, ?_⟩; have n0_ := Aside0.mk (Kd.R_lower ho0 (below_size (by repeat (first | (with_reducible first | exact HB.out | apply below_alloc | apply pw_below_drewN | apply below_drew1 | refine below_set ?_ GE490.out) | exact HB.out)))); have n1_ := Aside0.mk (blk_below (g := gb490) (o := .cells #[.int .i64 a1_0, .int .i64 a1_1, .int .i64 a1_2, .slice A1_3 l1_3.length c1_3, .int .i64 a1_4, .int .i64 a1_5, .int .i64 a1_6, .int .i64 a1_7, .int .i64 a1_8, .int .i64 a1_9, .int .i64 a1_10, .string a1_11, .string a1_12] 32 (0, 0)) (by (with_reducible repeat (first | refine blk_drewN ?_ _ | refine blk_drew ?_ | refine blk_alloc ?_ _)); exact BK490.out) hb); have n2_ := Aside0.mk (below_step (by repeat (first | (with_reducible first | exact HB.out | apply below_alloc | apply pw_below_drewN | apply below_drew1 | refine below_set ?_ GE490.out) | exact HB.out)) hb); clear BK490; clear HB; have HO494 := n0_; have BK490 := n1_; have HB := n2_; clear n0_ n1_ n2_; (try clear hb); (try clear hb2); (try clear hk); (try clear hi); (try clear ho0)))
 go_ret
 exact ⟨_, by first | rfl | (simp [errW_none, errW_some] <;> rfl) | (simp [*, errW_none, errW_some] <;> rfl), by (with_reducible repeat (first | apply Kd.R_alloc | apply Kd.R_drewN | apply Kd.R_drew)); exact HO494.out, by repeat (first | (with_reducible first | exact HB.out | apply below_alloc | apply pw_below_drewN | apply below_drew1 | refine below_set ?_ GE490.out) | exact HB.out)⟩
mutual
def topiaryref09_Take.j0 : Nat → List Int → Bool → Int → List (S32) → Int → Int → Int → List Int → Int → Int → Int → Int → Int → Int → Int → ByteArray → ByteArray → Option (Int × (List (S32)) × (List (S32)) × Int)
 | 0, _, _, _, _, _, _, _, _, _, _, _, _, _, _, _, _, _ => none
 | k + 1, x1, x38, x517000, x517001, x518000, x518001, x518002, x518003, x518004, x518005, x518006, x518007, x518008, x518009, x518010, x518011, x518012 => if x38 = true then (some (x517000, x517001, ([] : List (S32)), 5)) else ((topiaryref09_Ripe.f k x1 x518000 x518001 x518002 x518003 x518004 x518005 x518006 x518007 x518008 x518009 x518010 x518011 x518012).bind fun t525 => (if t525 = true then ((topiaryref09_tick.f k x1 x518000 x518001 x518002 x518003 x518004 x518005 x518006 x518007 x518008 x518009 x518010 x518011 x518012).bind fun t547 => (topiaryref09_Take.l0 k (([(⟨(⟨x518000, x518001⟩ : S30), x518002, x518003, x518004, (⟨x518005, x518006⟩ : S30), (⟨x518007, x518008⟩ : S30), (⟨x518009, x518010⟩ : S30), x518011, x518012⟩ : S32)] : List (S32))) x517001 t547 x517000 x517001)) else (if (x517001.length : Int) ≥ x517000 then (some (x517000, x517001, ([] : List (S32)), 6)) else ((topiaryref05_Copy.f x518000 x518001 x518002 x518003 x518004 x518005 x518006 x518007 x518008 x518009 x518010 x518011 x518012).bind fun bt526 => ((topiaryref09_put.f k x517001 bt526.1 bt526.2.1 bt526.2.2.1 bt526.2.2.2.1 bt526.2.2.2.2.1 bt526.2.2.2.2.2.1 bt526.2.2.2.2.2.2.1 bt526.2.2.2.2.2.2.2.1 bt526.2.2.2.2.2.2.2.2.1 bt526.2.2.2.2.2.2.2.2.2.1 bt526.2.2.2.2.2.2.2.2.2.2.1 bt526.2.2.2.2.2.2.2.2.2.2.2.1 bt526.2.2.2.2.2.2.2.2.2.2.2.2).bind fun t541 => (some (x517000, t541, ([] : List (S32)), 0)))))))
def topiaryref09_Take.l0 : Nat → List (S32) → List (S32) → List Int → Int → List (S32) → Option (Int × (List (S32)) × (List (S32)) × Int)
 | 0, _, _, _, _, _ => none
 | k + 1, x9, x10, x11, x517000, x517001 => (topiaryref09_next.f k x11 x10).bind fun t550 => (if t550 ≥ 0 then ((topiaryref09_next.f k x11 x10).bind fun t551 => (if 0 ≤ t551 then (if t551 < (x10.length : Int) then (if x9.length < 1034834473200 then ((topiaryref09_tick.f k x11 ((rd_T32 x10 t551).f0.f0) ((rd_T32 x10 t551).f0.f1) ((rd_T32 x10 t551).f1) ((rd_T32 x10 t551).f2) ((rd_T32 x10 t551).f3) ((rd_T32 x10 t551).f4.f0) ((rd_T32 x10 t551).f4.f1) ((rd_T32 x10 t551).f5.f0) ((rd_T32 x10 t551).f5.f1) ((rd_T32 x10 t551).f6.f0) ((rd_T32 x10 t551).f6.f1) ((rd_T32 x10 t551).f7) ((rd_T32 x10 t551).f8)).bind fun t557 => ((topiaryref09_without.f x10 t551).bind fun t560 => (topiaryref09_Take.l0 k (x9 ++ [(⟨(⟨(rd_T32 x10 t551).f0.f0, (rd_T32 x10 t551).f0.f1⟩ : S30), (rd_T32 x10 t551).f1, (rd_T32 x10 t551).f2, (rd_T32 x10 t551).f3, (⟨(rd_T32 x10 t551).f4.f0, (rd_T32 x10 t551).f4.f1⟩ : S30), (⟨(rd_T32 x10 t551).f5.f0, (rd_T32 x10 t551).f5.f1⟩ : S30), (⟨(rd_T32 x10 t551).f6.f0, (rd_T32 x10 t551).f6.f1⟩ : S30), (rd_T32 x10 t551).f7, (rd_T32 x10 t551).f8⟩ : S32)]) t560 t557 x517000 x517001))) else (none)) else (none)) else (none))) else (some (x517000, x10, x9, 0)))
end
def topiaryref09_Take.f (k : Nat) (a0_0 : Int) (l0_1 : List (S32)) (l1 : List Int) (a2_0 : Int) (a2_1 : Int) (a2_2 : Int) (l2_3 : List Int) (a2_4 : Int) (a2_5 : Int) (a2_6 : Int) (a2_7 : Int) (a2_8 : Int) (a2_9 : Int) (a2_10 : Int) (a2_11 : ByteArray) (a2_12 : ByteArray) : Option (Int × (List (S32)) × (List (S32)) × Int) := (topiaryref02_Check.f k l1).bind fun t519 => (if t519 = 0 then ((topiaryref05_Check.f k a2_0 a2_1 a2_2 l2_3 a2_4 a2_5 a2_6 a2_7 a2_8 a2_9 a2_10 a2_11 a2_12).bind fun t521 => (if t521 = 0 then ((topiaryref07_Within.f a2_0 a2_1 a2_2 l2_3 a2_4 a2_5 a2_6 a2_7 a2_8 a2_9 a2_10 a2_11 a2_12 l1).bind fun t523 => (if t523 = true then (topiaryref09_Take.j0 k l1 true a0_0 l0_1 a2_0 a2_1 a2_2 l2_3 a2_4 a2_5 a2_6 a2_7 a2_8 a2_9 a2_10 a2_11 a2_12) else ((topiaryref07_Own.f k l0_1 a2_1 a2_2).bind fun t524 => (topiaryref09_Take.j0 k l1 (decide (t524 ≥ 0)) a0_0 l0_1 a2_0 a2_1 a2_2 l2_3 a2_4 a2_5 a2_6 a2_7 a2_8 a2_9 a2_10 a2_11 a2_12)))) else ((topiaryref05_Check.f k a2_0 a2_1 a2_2 l2_3 a2_4 a2_5 a2_6 a2_7 a2_8 a2_9 a2_10 a2_11 a2_12).bind fun t522 => (some (a0_0, l0_1, ([] : List (S32)), t522))))) else ((topiaryref02_Check.f k l1).bind fun t520 => (some (a0_0, l0_1, ([] : List (S32)), t520))))
theorem topiaryref09_Take.mono_l : ∀ k, (∀ y0 y1 y2 y3 y4 y5 y6 y7 y8 y9 y10 y11 y12 y13 y14 y15 y16, LeO (topiaryref09_Take.j0 k y0 y1 y2 y3 y4 y5 y6 y7 y8 y9 y10 y11 y12 y13 y14 y15 y16) (topiaryref09_Take.j0 (k + 1) y0 y1 y2 y3 y4 y5 y6 y7 y8 y9 y10 y11 y12 y13 y14 y15 y16)) ∧ (∀ y0 y1 y2 y3 y4, LeO (topiaryref09_Take.l0 k y0 y1 y2 y3 y4) (topiaryref09_Take.l0 (k + 1) y0 y1 y2 y3 y4))
 | 0 => ⟨fun _ _ _ _ _ _ _ _ _ _ _ _ _ _ _ _ _ r h => by simp [topiaryref09_Take.j0] at h, fun _ _ _ _ _ r h => by simp [topiaryref09_Take.l0] at h⟩
 | k + 1 => by
  obtain ⟨ih0, ih1⟩ := topiaryref09_Take.mono_l k
  refine ⟨?_, ?_⟩
  ·intro y0 y1 y2 y3 y4 y5 y6 y7 y8 y9 y10 y11 y12 y13 y14 y15 y16
   unfold topiaryref09_Take.j0
   repeat' first
   | (with_reducible exact ih0 _ _ _ _ _ _ _ _ _ _ _ _ _ _ _ _ _)
   | (with_reducible exact ih1 _ _ _ _ _)
   | (with_reducible exact topiaryref02_Check.mono _ _)
   | (with_reducible exact topiaryref05_Check.mono _ _ _ _ _ _ _ _ _ _ _ _ _ _)
   | (with_reducible exact topiaryref07_Own.mono _ _ _ _)
   | (with_reducible exact topiaryref09_Ripe.mono _ _ _ _ _ _ _ _ _ _ _ _ _ _ _)
   | (with_reducible exact topiaryref09_next.mono _ _ _)
   | (with_reducible exact topiaryref09_put.mono _ _ _ _ _ _ _ _ _ _ _ _ _ _ _)
   | (with_reducible exact topiaryref09_tick.mono _ _ _ _ _ _ _ _ _ _ _ _ _ _ _)
   | (with_reducible exact LeO.refl _)
   | (with_reducible exact LeO.none _)
   | (with_reducible refine LeO.ite ?_ ?_)
   | (with_reducible refine LeO.bind ?_ (fun _ => ?_))
   | exact ih0 _ _ _ _ _ _ _ _ _ _ _ _ _ _ _ _ _
   | exact ih1 _ _ _ _ _
   | exact topiaryref02_Check.mono _ _
   | exact topiaryref05_Check.mono _ _ _ _ _ _ _ _ _ _ _ _ _ _
   | exact topiaryref07_Own.mono _ _ _ _
   | exact topiaryref09_Ripe.mono _ _ _ _ _ _ _ _ _ _ _ _ _ _ _
   | exact topiaryref09_next.mono _ _ _
   | exact topiaryref09_put.mono _ _ _ _ _ _ _ _ _ _ _ _ _ _ _
   | exact topiaryref09_tick.mono _ _ _ _ _ _ _ _ _ _ _ _ _ _ _
   | exact LeO.none _
   | refine LeO.ite ?_ ?_
   | refine LeO.bind ?_ (fun _ => ?_)
  ·intro y0 y1 y2 y3 y4
   unfold topiaryref09_Take.l0
   repeat' first
   | (with_reducible exact ih0 _ _ _ _ _ _ _ _ _ _ _ _ _ _ _ _ _)
   | (with_reducible exact ih1 _ _ _ _ _)
   | (with_reducible exact topiaryref02_Check.mono _ _)
   | (with_reducible exact topiaryref05_Check.mono _ _ _ _ _ _ _ _ _ _ _ _ _ _)
   | (with_reducible exact topiaryref07_Own.mono _ _ _ _)
   | (with_reducible exact topiaryref09_Ripe.mono _ _ _ _ _ _ _ _ _ _ _ _ _ _ _)
   | (with_reducible exact topiaryref09_next.mono _ _ _)
   | (with_reducible exact topiaryref09_put.mono _ _ _ _ _ _ _ _ _ _ _ _ _ _ _)
   | (with_reducible exact topiaryref09_tick.mono _ _ _ _ _ _ _ _ _ _ _ _ _ _ _)
   | (with_reducible exact LeO.refl _)
   | (with_reducible exact LeO.none _)
   | (with_reducible refine LeO.ite ?_ ?_)
   | (with_reducible refine LeO.bind ?_ (fun _ => ?_))
   | exact ih0 _ _ _ _ _ _ _ _ _ _ _ _ _ _ _ _ _
   | exact ih1 _ _ _ _ _
   | exact topiaryref02_Check.mono _ _
   | exact topiaryref05_Check.mono _ _ _ _ _ _ _ _ _ _ _ _ _ _
   | exact topiaryref07_Own.mono _ _ _ _
   | exact topiaryref09_Ripe.mono _ _ _ _ _ _ _ _ _ _ _ _ _ _ _
   | exact topiaryref09_next.mono _ _ _
   | exact topiaryref09_put.mono _ _ _ _ _ _ _ _ _ _ _ _ _ _ _
   | exact topiaryref09_tick.mono _ _ _ _ _ _ _ _ _ _ _ _ _ _ _
   | exact LeO.none _
   | refine LeO.ite ?_ ?_
   | refine LeO.bind ?_ (fun _ => ?_)
theorem topiaryref09_Take.mono : ∀ a0 a1 a2 a3 a4 a5 a6 a7 a8 a9 a10 a11 a12 a13 a14 a15 k, LeO (topiaryref09_Take.f k a0 a1 a2 a3 a4 a5 a6 a7 a8 a9 a10 a11 a12 a13 a14 a15) (topiaryref09_Take.f (k + 1) a0 a1 a2 a3 a4 a5 a6 a7 a8 a9 a10 a11 a12 a13 a14 a15) := by
 intro a0 a1 a2 a3 a4 a5 a6 a7 a8 a9 a10 a11 a12 a13 a14 a15 k
 obtain ⟨ih0, ih1⟩ := topiaryref09_Take.mono_l k
 unfold topiaryref09_Take.f
 repeat' first
   | (with_reducible exact ih0 _ _ _ _ _ _ _ _ _ _ _ _ _ _ _ _ _)
   | (with_reducible exact ih1 _ _ _ _ _)
   | (with_reducible exact topiaryref02_Check.mono _ _)
   | (with_reducible exact topiaryref05_Check.mono _ _ _ _ _ _ _ _ _ _ _ _ _ _)
   | (with_reducible exact topiaryref07_Own.mono _ _ _ _)
   | (with_reducible exact topiaryref09_Ripe.mono _ _ _ _ _ _ _ _ _ _ _ _ _ _ _)
   | (with_reducible exact topiaryref09_next.mono _ _ _)
   | (with_reducible exact topiaryref09_put.mono _ _ _ _ _ _ _ _ _ _ _ _ _ _ _)
   | (with_reducible exact topiaryref09_tick.mono _ _ _ _ _ _ _ _ _ _ _ _ _ _ _)
   | (with_reducible exact LeO.refl _)
   | (with_reducible exact LeO.none _)
   | (with_reducible refine LeO.ite ?_ ?_)
   | (with_reducible refine LeO.bind ?_ (fun _ => ?_))
   | exact ih0 _ _ _ _ _ _ _ _ _ _ _ _ _ _ _ _ _
   | exact ih1 _ _ _ _ _
   | exact topiaryref02_Check.mono _ _
   | exact topiaryref05_Check.mono _ _ _ _ _ _ _ _ _ _ _ _ _ _
   | exact topiaryref07_Own.mono _ _ _ _
   | exact topiaryref09_Ripe.mono _ _ _ _ _ _ _ _ _ _ _ _ _ _ _
   | exact topiaryref09_next.mono _ _ _
   | exact topiaryref09_put.mono _ _ _ _ _ _ _ _ _ _ _ _ _ _ _
   | exact topiaryref09_tick.mono _ _ _ _ _ _ _ _ _ _ _ _ _ _ _
   | exact LeO.none _
   | refine LeO.ite ?_ ?_
   | refine LeO.bind ?_ (fun _ => ?_)
end Go.Proofs.Ytnopjjilpgekfaa.PCa
namespace Go.Proofs.Ytnopjjilpgekfaa.PCa
open Go.RowKit Go.Proofs.YtnopjjilpgekfaaW.PrintWords Go.Proofs.YtnopjjilpgekfaaW.PrintLast Go.Proofs.YtnopjjilpgekfaaW.PrintMore
set_option linter.unusedVariables false
set_option linter.unusedSimpArgs false
/-- What is held is right, and in order. -/
structure Good (l : List S32) : Prop where
 ok : ∀ y ∈ l, checkX y = 0
 ord : l.Pairwise (fun a b => befX a b = true)
theorem bef_iff (a b : S32) : befX a b = true ↔ a.f0.f0 < b.f0.f0 ∨ (a.f0.f0 = b.f0.f0 ∧ (a.f0.f1 < b.f0.f1 ∨ (a.f0.f1 = b.f0.f1 ∧ a.f1 < b.f1))) := by
 unfold befX lessC
 simp only [Bool.or_eq_true, Bool.and_eq_true, decide_eq_true_eq, beq_iff_eq]
 omega
theorem bef_trans {a b c : S32} (h1 : befX a b = true) (h2 : befX b c = true) : befX a c = true := by
 rw [bef_iff] at *
 omega
theorem bef_asymm {a b : S32} (h1 : befX a b = true) : befX b a = false := by
 rw [Bool.eq_false_iff]
 intro h2
 rw [bef_iff] at *
 omega
theorem bef_total {a b : S32} (h : befX a b = false) (hk : keyOf a ≠ keyOf b) : befX b a = true := by
 have h' : ¬ (befX a b = true) := by rw [h]; decide
 rw [bef_iff] at h' ⊢
 have : ¬ (a.f0.f1 = b.f0.f1 ∧ a.f1 = b.f1) := fun e => hk (by unfold keyOf; rw [e.1, e.2])
 omega
theorem Good.nil : Good [] := ⟨(fun _ h => nomatch h), List.Pairwise.nil⟩
theorem Good.filter {l : List S32} (h : Good l) (p : S32 → Bool) : Good (l.filter p) := ⟨fun y hy => h.ok y (List.mem_filter.1 hy).1, h.ord.sublist List.filter_sublist⟩
theorem Good.len {l : List S32} (h : Good l) : ∀ y ∈ l, y.f2.length ≤ 64 := fun y hy => (check_ok (h.ok y hy)).2.2.2.2.2
theorem Good.seq {l : List S32} (h : Good l) : ∀ y ∈ l, 0 ≤ y.f1 ∧ y.f1 ≤ 1099511627776 := fun y hy => by
 have := check_ok (h.ok y hy)
 omega
theorem Good.mono {l : List S32} (h : Good l) (x : S32) : ∀ a b, a ≤ b → b < l.length → cmpX (rd_T32 l (b : Nat)) x < 0 → cmpX (rd_T32 l (a : Nat)) x < 0 := fun a b hab hb hc => by
 rcases Nat.lt_or_eq_of_le hab with hlt | rfl
 ·have h1 := List.pairwise_iff_getElem.1 h.ord a b (by omega) hb hlt
  have ea : l[a]'(by omega) = rd_T32 l (a : Nat) := by
   have := rd32_at (l := l) (j := a) (by omega)
   rw [List.getElem?_eq_getElem (by omega)] at this
   exact Option.some.inj this
  have eb : l[b] = rd_T32 l (b : Nat) := by
   have := rd32_at hb
   rw [List.getElem?_eq_getElem hb] at this
   exact Option.some.inj this
  rw [ea, eb] at h1
  rw [cmp_neg] at hc ⊢
  exact bef_trans h1 hc
 ·exact hc
/-- Those ahead of x are the first ones. -/
theorem Good.split {l : List S32} (h : Good l) (x : S32) : (∀ y ∈ l.take (cntX x l), befX y x = true) ∧ ∀ y ∈ l.drop (cntX x l), befX y x = false := by
 induction l with
 | nil => exact ⟨fun _ h => (by simp at h), fun _ h => (by simp at h)⟩
 | cons a t ih =>
  have ht : Good t := ⟨fun y hy => h.ok y (List.mem_cons_of_mem _ hy), (List.pairwise_cons.1 h.ord).2⟩
  obtain ⟨i1, i2⟩ := ih ht
  by_cases ha : befX a x = true
  ·have hc : cntX x (a :: t) = cntX x t + 1 := by
    unfold cntX
    rw [List.countP_cons_of_pos (by rw [decide_eq_true_eq, cmp_neg]; exact ha)]
   rw [hc]
   refine ⟨fun y hy => ?_, fun y hy => i2 y (by simpa using hy)⟩
   rw [List.take_succ_cons] at hy
   rcases List.mem_cons.1 hy with rfl | hy
   ·exact ha
   ·exact i1 y hy
  ·have hall : ∀ y ∈ t, befX y x = false := fun y hy => by
    rw [Bool.eq_false_iff]
    intro hb
    exact ha (bef_trans ((List.pairwise_cons.1 h.ord).1 y hy) hb)
   have hc : cntX x (a :: t) = 0 := by
    unfold cntX
    rw [List.countP_eq_zero]
    intro y hy
    rw [decide_eq_true_eq, cmp_neg]
    rcases List.mem_cons.1 hy with rfl | hy
    ·exact ha
    ·rw [hall y hy]; decide
   rw [hc]
   refine ⟨fun y hy => (by simp at hy), fun y hy => ?_⟩
   rcases List.mem_cons.1 (by simpa using hy) with rfl | hy
   ·simpa using ha
   ·exact hall y hy
theorem putC_at (x : S32) : ∀ (l1 l2 : List S32), (∀ y ∈ l1, befX x y = false) → (∀ y ∈ l2, befX x y = true) → putC x (l1 ++ l2) = l1 ++ x :: l2
 | [], [], _, _ => rfl
 | [], y :: t, _, h2 => by
  rw [List.nil_append, putC, if_pos (h2 y List.mem_cons_self)]
  rfl
 | a :: l1, l2, h1, h2 => by
  rw [List.cons_append, putC, if_neg (by rw [h1 a List.mem_cons_self]; decide), putC_at x l1 l2 (fun y hy => h1 y (List.mem_cons_of_mem _ hy)) h2]
  rfl
theorem ownX_no {l : List S32} {x : S32} (h : ownX l x = false) : ∀ y ∈ l, keyOf y ≠ keyOf x := fun y hy e => of_decide_eq_false h (e ▸ List.mem_map_of_mem hy)
theorem Good.put {l : List S32} (h : Good l) {x : S32} (ho : ownX l x = false) : putC x l = l.take (cntX x l) ++ x :: l.drop (cntX x l) := by
 obtain ⟨h1, h2⟩ := h.split x
 have := putC_at x (l.take (cntX x l)) (l.drop (cntX x l)) (fun y hy => bef_asymm (h1 y hy)) (fun y hy => bef_total (h2 y hy) (ownX_no ho y (List.mem_of_mem_drop hy)))
 rwa [List.take_append_drop] at this
theorem Good.more {l : List S32} (h : Good l) {x : S32} (hx : checkX x = 0) (ho : ownX l x = false) : Good (l.take (cntX x l) ++ x :: l.drop (cntX x l)) := by
 obtain ⟨h1, h2⟩ := h.split x
 refine ⟨fun y hy => ?_, ?_⟩
 ·rcases List.mem_append.1 hy with hy | hy
  ·exact h.ok y (List.mem_of_mem_take hy)
  ·rcases List.mem_cons.1 hy with rfl | hy
   ·exact hx
   ·exact h.ok y (List.mem_of_mem_drop hy)
 ·have ht := h.ord.sublist (List.take_sublist (cntX x l) l)
  have hd := h.ord.sublist (List.drop_sublist (cntX x l) l)
  refine List.pairwise_append.2 ⟨ht, List.pairwise_cons.2 ⟨fun y hy => bef_total (h2 y hy) (ownX_no ho y (List.mem_of_mem_drop hy)), hd⟩, fun a ha b hb => ?_⟩
  rcases List.mem_cons.1 hb with rfl | hb
  ·exact h1 a ha
  ·have := h.ord
   rw [← List.take_append_drop (cntX x l) l] at this
   exact (List.pairwise_append.1 this).2.2 a ha b hb
/-- Take of the program. -/
theorem take13_calls {w : World} {base : Nat} {P : Nat → Prop} {g : Nat} {room : Int} {l : List S32} (hB : BufI w base P g room l) (hG : Good l) (hroom : (l.length : Int) ≤ room) (hr2 : room ≤ 256) (A0 : Option Addr) (c0 : Nat) (known : List Int) (hk : Kd.C (Kd.int .i64) w A0 known.length known) (hkc : known.length ≤ c0)
  (x : S32) (A3 : Option Addr) (c3 : Nat) {X : Nat → Prop} (hxF : Kd.F (Kd.int .i64) w X A3 x.f2.length x.f2) (hXP : ∀ k, X k → ¬ P k) (hx3 : x.f2.length ≤ c3) (hs : x.f7.size < 4611686018427387904) :
  Calls Try.prog 13 #[.pointer (some ⟨g, 0, none⟩), .slice A0 known.length c0, .agg (chA x (.slice A3 x.f2.length c3))] w (TakeB w base P g room (takeF room l known x)) := by
 have hn : l.length < 1000 := by omega
 unfold takeF
 by_cases c1 : chkC known = 0
 ·rw [if_pos c1]
  by_cases c2 : checkX x = 0
  ·rw [if_pos c2]
   cases hw : withinX known x with
   | true =>
    rw [Bool.true_or, if_pos rfl]
    exact take_within hB A0 c0 known hk hkc x A3 c3 (Kd.F_now hxF) hx3 hs c1 c2 hw
   | false =>
    rw [Bool.false_or]
    cases ho : ownX l x with
    | true =>
     rw [if_pos rfl]
     exact take_own hB A0 c0 known hk hkc x A3 c3 (Kd.F_now hxF) hx3 hs c1 c2 hw ho
    | false =>
     rw [if_neg (by decide)]
     cases hr : ripeC known x with
     | true =>
      rw [if_pos rfl]
      exact take_ripe hB A0 c0 known hk hkc x A3 c3 (Kd.F_now hxF) hx3 hs c1 c2 hw ho hr hn hG.len
     | false =>
      rw [if_neg (by decide)]
      by_cases hf : room ≤ l.length
      ·rw [if_pos hf]
       exact take_full hB A0 c0 known hk hkc x A3 c3 (Kd.F_now hxF) hx3 hs c1 c2 hw ho hr hf
      ·rw [if_neg hf]
       exact take_put hB A0 c0 known hk hkc x A3 c3 (Kd.F_now hxF) hx3 hs c1 c2 hw ho hr hf hn hG.seq (hG.mono x) hxF hXP
  ·rw [if_neg c2]
   exact take_bad hB A0 c0 known hk hkc x A3 c3 (Kd.F_now hxF) hx3 hs c1 c2 _
 ·rw [if_neg c1]
  exact take_chk hB A0 c0 known hk hkc x A3 c3 (Kd.F_now hxF) hx3 c1 _
theorem ref_tick_is (l : List Int) (x : S32) (k : Nat) (hk : 300 < k) : topiaryref09_tick.f k l x.f0.f0 x.f0.f1 x.f1 x.f2 x.f3 x.f4.f0 x.f4.f1 x.f5.f0 x.f5.f1 x.f6.f0 x.f6.f1 x.f7 x.f8 = some (tickC l x.f0.f1).1 := by
 unfold topiaryref09_tick.f
 rw [ref_Tick_is l _ k hk, Option.bind_some]
theorem next_is {l : List S32} (h : Good l) (known : List Int) (hl : l.length < 90000) (k : Nat) (hk : l.length + 80 < k) : topiaryref09_next.f k known l = some (nextI known l 0) := by
 unfold topiaryref09_next.f
 have := next_loop l known hl (fun x hx => ⟨h.len x hx, h.seq x hx⟩) l.length 0 k (by omega) hk
 rw [List.drop_zero] at this
 exact this
end Go.Proofs.Ytnopjjilpgekfaa.PCa
namespace Go.Proofs.Ytnopjjilpgekfaa.PCa
open Go.RowKit Go.Proofs.YtnopjjilpgekfaaW.PrintWords Go.Proofs.YtnopjjilpgekfaaW.PrintLast Go.Proofs.YtnopjjilpgekfaaW.PrintMore
attribute [local go_sem] max2_int min2_int max_two min_two max_three min_three max_four min_four
set_option linter.unusedVariables false
set_option linter.unusedSimpArgs false
def topiarylaw09_second.f  : Option (Int × Int × Int × List Int × Int × Int × Int × Int × Int × Int × Int × ByteArray × ByteArray) := some (2, 1, 1, (([1] : List Int)), 5, 1, 0, 0, 0, 0, 0, (⟨#[]⟩ : ByteArray), (⟨#[97]⟩ : ByteArray))
set_option maxHeartbeats 8000000 in
set_option maxRecDepth 100000 in
theorem topiarylaw09_second.calls  (r1 : Int) (r2 : Int) (r3 : Int) (r4 : List Int) (r5 : Int) (r6 : Int) (r7 : Int) (r8 : Int) (r9 : Int) (r10 : Int) (r11 : Int) (r12 : ByteArray) (r13 : ByteArray) (w : World) (h : topiarylaw09_second.f  = some (r1, r2, r3, r4, r5, r6, r7, r8, r9, r10, r11, r12, r13)) :
  Calls Try.prog 28 #[] w fun e w' => ∃ v3_ : Value, e = .returned (.agg #[.int .i64 r1, .int .i64 r2, .int .i64 r3, v3_, .int .i64 r5, .int .i64 r6, .int .i64 r7, .int .i64 r8, .int .i64 r9, .int .i64 r10, .int .i64 r11, .string r12, .string r13]) ∧ Kd.R (Kd.int .i64) 3 w' w.heap.size (fun _ => True) v3_ r4 ∧ Below w.heap.size w w' := by
 have hu32 := Try.underlying32
 have hu30 := Try.underlying30
 have HB := Aside0.mk (Below.refl w.heap.size w)
 have H : (some (2, 1, 1, (([1] : List Int)), 5, 1, 0, 0, 0, 0, 0, (⟨#[]⟩ : ByteArray), (⟨#[97]⟩ : ByteArray))) = some (r1, r2, r3, r4, r5, r6, r7, r8, r9, r10, r11, r12, r13) := h
 clear h
 obtain ⟨y410, hy410⟩ : ∃ y_ : List Int, y_ = (([1] : List Int)) := ⟨_, rfl⟩
 replace H : (some (2, 1, 1, y410, 5, 1, 0, 0, 0, 0, 0, (⟨#[]⟩ : ByteArray), (⟨#[97]⟩ : ByteArray))) = some (r1, r2, r3, r4, r5, r6, r7, r8, r9, r10, r11, r12, r13) := by first | (rw [hy410]; with_reducible exact H) | (have H2_ := (Option.bind_some _ _).symm.trans H; rw [hy410]; with_reducible exact H2_) | (have H2_ := (Option.bind_some _ _).symm.trans H; with_reducible exact H2_) | with_reducible exact H | (rw [hy410]; exact H) | exact H
 have Ny410 := Aside0.mk hy410
 clear hy410
 simp only [Option.some.injEq, Prod.mk.injEq] at H
 obtain ⟨rfl, rfl, rfl, rfl, rfl, rfl, rfl, rfl, rfl, rfl, rfl, rfl, rfl⟩ := H
 go_enter Try.func28, Try.ntmps28
 go_wp2_with (first | ((with_reducible refine gate_dst (N := 0) rfl ?_); refine box_event ?hg (N := 0) ?hd (cs := #[.int .i64 0, .int .i64 0, .int .i64 0, .slice none 0 0, .int .i64 0, .int .i64 0, .int .i64 0, .int .i64 0, .int .i64 0, .int .i64 0, .int .i64 0, .string (⟨#[]⟩ : ByteArray), .string (⟨#[]⟩ : ByteArray)]) (t := 32) ?hr ?_; (case hd => rfl); (case hg => rfl); (case hr => first | (go_simp; done) | (go_simp; rfl)); intro gb409 hg w1 hbox hb; have n0_ := Aside0.mk (below_step (by repeat (first | (with_reducible first | exact HB.out | apply below_alloc | apply pw_below_drewN | apply below_drew1) | exact HB.out)) hb); have n1_ := Aside0.mk (hbox); have n2_ := Aside0.mk ((by rw [hg]; exact (below_size (by repeat (first | (with_reducible first | exact HB.out | apply below_alloc | apply pw_below_drewN | apply below_drew1) | exact HB.out))) : w.heap.size ≤ gb409)); have n3_ := Aside0.mk ((by rw [hg]; exact (below_size (by repeat (first | (with_reducible first | exact HB.out | apply below_alloc | apply pw_below_drewN | apply below_drew1) | exact HB.out))) : w.heap.size ≤ gb409)); clear HB; have HB := n0_; have BK409 := n1_; have GW409 := n2_; have GE409 := n3_; clear n0_ n1_ n2_ n3_; clear hb hbox hg) | ((with_reducible refine gate_dst (N := 2) rfl ?_); refine Kd.R_lit (Kd.int .i64) _ 3 ?hg (N := 2) ?hd (xs := ([1] : List Int)) (inner := [.int .i64 1]) (ok := fun _ => True) (okp := fun _ => True) ?hr ?hp (fun _ hk => hk) trivial (Below.refl _ _) (Nat.le_refl _) (by simp) ?_; (case hd => rfl); (case hg => rfl); (case hr => first | (go_simp; done) | (go_simp; rfl)); (case hp => exact (Reps.one (show Kd.M (Kd.int .i64) _ _ _ 1 [.int .i64 1] from rfl) (Reps.none _ _))); intro v411 w2 ho3 hb hg_ hnew_; clear hg_ hnew_; (first | rw [← Ny410.out] at ho3 | (simp only [Int.reduceToNat] at ho3; rw [← Ny410.out] at ho3)); have n0_ := Aside0.mk (Kd.R_lower ho3 (below_size (by repeat (first | (with_reducible first | exact HB.out | apply below_alloc | apply pw_below_drewN | apply below_drew1 | refine below_set ?_ GE409.out) | exact HB.out)))); have n1_ := Aside0.mk (blk_below (g := gb409) (o := .cells #[.int .i64 0, .int .i64 0, .int .i64 0, .slice none 0 0, .int .i64 0, .int .i64 0, .int .i64 0, .int .i64 0, .int .i64 0, .int .i64 0, .int .i64 0, .string (⟨#[]⟩ : ByteArray), .string (⟨#[]⟩ : ByteArray)] 32 (0, 0)) (by (with_reducible repeat (first | refine blk_drewN ?_ _ | refine blk_drew ?_ | refine blk_alloc ?_ _)); exact BK409.out) hb); have n2_ := Aside0.mk (below_step (by repeat (first | (with_reducible first | exact HB.out | apply below_alloc | apply pw_below_drewN | apply below_drew1 | refine below_set ?_ GE409.out) | exact HB.out)) hb); clear BK409; clear HB; have HO412 := n0_; have BK409 := n1_; have HB := n2_; clear n0_ n1_ n2_; clear hb ho3; obtain ⟨Ao4, co4, eo4⟩ := Kd.R_slice HO412.out; subst eo4; obtain ⟨hcz5_0, hcz5_1, hcz5_2, hcz5_3, hcz5_4, hcz5_5, hcz5_6, hcz5_7, hcz5_8, hcz5_9, hcz5_10, hcz5_11, hcz5_12⟩ := cells13 BK409.out; obtain ⟨hfz5_0, hfz5_1, hfz5_2, hfz5_3, hfz5_4, hfz5_5, hfz5_6, hfz5_7, hfz5_8, hfz5_9, hfz5_10, hfz5_11, hfz5_12⟩ := froz13 BK409.out))
 refine bodyPost_ret (results_cell_row rfl _ _ gb409 32 #[.int .i64 2, .int .i64 1, .int .i64 1, .slice Ao4 y410.length co4, .int .i64 5, .int .i64 1, .int .i64 0, .int .i64 0, .int .i64 0, .int .i64 0, .int .i64 0, .string (⟨#[]⟩ : ByteArray), .string (⟨#[97]⟩ : ByteArray)] (0, 0) _ rfl (by (with_reducible repeat (first | refine blk_drewN ?_ _ | refine blk_drew ?_ | refine blk_alloc ?_ _)); refine blk_put (cs := #[.int .i64 2, .int .i64 1, .int .i64 1, .slice Ao4 y410.length co4, .int .i64 5, .int .i64 1, .int .i64 0, .int .i64 0, .int .i64 0, .int .i64 0, .int .i64 0, .string (⟨#[]⟩ : ByteArray), .string (⟨#[]⟩ : ByteArray)]) ?_ 12 _ rfl; (with_reducible repeat (first | refine blk_drewN ?_ _ | refine blk_drew ?_ | refine blk_alloc ?_ _)); refine blk_put (cs := #[.int .i64 2, .int .i64 1, .int .i64 1, .slice Ao4 y410.length co4, .int .i64 5, .int .i64 1, .int .i64 0, .int .i64 0, .int .i64 0, .int .i64 0, .int .i64 0, .string (⟨#[]⟩ : ByteArray), .string (⟨#[]⟩ : ByteArray)]) ?_ 11 _ rfl; (with_reducible repeat (first | refine blk_drewN ?_ _ | refine blk_drew ?_ | refine blk_alloc ?_ _)); refine blk_put (cs := #[.int .i64 2, .int .i64 1, .int .i64 1, .slice Ao4 y410.length co4, .int .i64 5, .int .i64 1, .int .i64 0, .int .i64 0, .int .i64 0, .int .i64 0, .int .i64 0, .string (⟨#[]⟩ : ByteArray), .string (⟨#[]⟩ : ByteArray)]) ?_ 10 _ rfl; (with_reducible repeat (first | refine blk_drewN ?_ _ | refine blk_drew ?_ | refine blk_alloc ?_ _)); refine blk_put (cs := #[.int .i64 2, .int .i64 1, .int .i64 1, .slice Ao4 y410.length co4, .int .i64 5, .int .i64 1, .int .i64 0, .int .i64 0, .int .i64 0, .int .i64 0, .int .i64 0, .string (⟨#[]⟩ : ByteArray), .string (⟨#[]⟩ : ByteArray)]) ?_ 9 _ rfl; (with_reducible repeat (first | refine blk_drewN ?_ _ | refine blk_drew ?_ | refine blk_alloc ?_ _)); refine blk_put (cs := #[.int .i64 2, .int .i64 1, .int .i64 1, .slice Ao4 y410.length co4, .int .i64 5, .int .i64 1, .int .i64 0, .int .i64 0, .int .i64 0, .int .i64 0, .int .i64 0, .string (⟨#[]⟩ : ByteArray), .string (⟨#[]⟩ : ByteArray)]) ?_ 8 _ rfl; (with_reducible repeat (first | refine blk_drewN ?_ _ | refine blk_drew ?_ | refine blk_alloc ?_ _)); refine blk_put (cs := #[.int .i64 2, .int .i64 1, .int .i64 1, .slice Ao4 y410.length co4, .int .i64 5, .int .i64 1, .int .i64 0, .int .i64 0, .int .i64 0, .int .i64 0, .int .i64 0, .string (⟨#[]⟩ : ByteArray), .string (⟨#[]⟩ : ByteArray)]) ?_ 7 _ rfl; (with_reducible repeat (first | refine blk_drewN ?_ _ | refine blk_drew ?_ | refine blk_alloc ?_ _)); refine blk_put (cs := #[.int .i64 2, .int .i64 1, .int .i64 1, .slice Ao4 y410.length co4, .int .i64 5, .int .i64 1, .int .i64 0, .int .i64 0, .int .i64 0, .int .i64 0, .int .i64 0, .string (⟨#[]⟩ : ByteArray), .string (⟨#[]⟩ : ByteArray)]) ?_ 6 _ rfl; (with_reducible repeat (first | refine blk_drewN ?_ _ | refine blk_drew ?_ | refine blk_alloc ?_ _)); refine blk_put (cs := #[.int .i64 2, .int .i64 1, .int .i64 1, .slice Ao4 y410.length co4, .int .i64 5, .int .i64 0, .int .i64 0, .int .i64 0, .int .i64 0, .int .i64 0, .int .i64 0, .string (⟨#[]⟩ : ByteArray), .string (⟨#[]⟩ : ByteArray)]) ?_ 5 _ rfl; (with_reducible repeat (first | refine blk_drewN ?_ _ | refine blk_drew ?_ | refine blk_alloc ?_ _)); refine blk_put (cs := #[.int .i64 2, .int .i64 1, .int .i64 1, .slice Ao4 y410.length co4, .int .i64 0, .int .i64 0, .int .i64 0, .int .i64 0, .int .i64 0, .int .i64 0, .int .i64 0, .string (⟨#[]⟩ : ByteArray), .string (⟨#[]⟩ : ByteArray)]) ?_ 4 _ rfl; (with_reducible repeat (first | refine blk_drewN ?_ _ | refine blk_drew ?_ | refine blk_alloc ?_ _)); refine blk_put (cs := #[.int .i64 2, .int .i64 1, .int .i64 1, .slice none 0 0, .int .i64 0, .int .i64 0, .int .i64 0, .int .i64 0, .int .i64 0, .int .i64 0, .int .i64 0, .string (⟨#[]⟩ : ByteArray), .string (⟨#[]⟩ : ByteArray)]) ?_ 3 _ rfl; (with_reducible repeat (first | refine blk_drewN ?_ _ | refine blk_drew ?_ | refine blk_alloc ?_ _)); refine blk_put (cs := #[.int .i64 2, .int .i64 1, .int .i64 0, .slice none 0 0, .int .i64 0, .int .i64 0, .int .i64 0, .int .i64 0, .int .i64 0, .int .i64 0, .int .i64 0, .string (⟨#[]⟩ : ByteArray), .string (⟨#[]⟩ : ByteArray)]) ?_ 2 _ rfl; (with_reducible repeat (first | refine blk_drewN ?_ _ | refine blk_drew ?_ | refine blk_alloc ?_ _)); refine blk_put (cs := #[.int .i64 2, .int .i64 0, .int .i64 0, .slice none 0 0, .int .i64 0, .int .i64 0, .int .i64 0, .int .i64 0, .int .i64 0, .int .i64 0, .int .i64 0, .string (⟨#[]⟩ : ByteArray), .string (⟨#[]⟩ : ByteArray)]) ?_ 1 _ rfl; (with_reducible repeat (first | refine blk_drewN ?_ _ | refine blk_drew ?_ | refine blk_alloc ?_ _)); refine blk_put (cs := #[.int .i64 0, .int .i64 0, .int .i64 0, .slice none 0 0, .int .i64 0, .int .i64 0, .int .i64 0, .int .i64 0, .int .i64 0, .int .i64 0, .int .i64 0, .string (⟨#[]⟩ : ByteArray), .string (⟨#[]⟩ : ByteArray)]) ?_ 0 _ rfl; (with_reducible repeat (first | refine blk_drewN ?_ _ | refine blk_drew ?_ | refine blk_alloc ?_ _)); exact BK409.out) Try.underlying32 rfl (by kernel_rfl)) rfl ?_
 exact ⟨_, by first | rfl | (simp [errW_none, errW_some] <;> rfl) | (simp [*, errW_none, errW_some] <;> rfl), by (with_reducible repeat (first | apply Kd.R_alloc | apply Kd.R_drewN | apply Kd.R_drew)); exact Kd.R_mono (Kd.R_far (p := ⟨gb409, 12, none⟩) (Kd.R_far (p := ⟨gb409, 11, none⟩) (Kd.R_far (p := ⟨gb409, 10, none⟩) (Kd.R_far (p := ⟨gb409, 9, none⟩) (Kd.R_far (p := ⟨gb409, 8, none⟩) (Kd.R_far (p := ⟨gb409, 7, none⟩) (Kd.R_far (p := ⟨gb409, 6, none⟩) (Kd.R_far (p := ⟨gb409, 5, none⟩) (Kd.R_far (p := ⟨gb409, 4, none⟩) (Kd.R_far (p := ⟨gb409, 3, none⟩) (Kd.R_far (p := ⟨gb409, 2, none⟩) (Kd.R_far (p := ⟨gb409, 1, none⟩) (Kd.R_far (p := ⟨gb409, 0, none⟩) (Kd.R_types HO412.out BK409.out (by decide)) (fun _ hk => hk.2) (.int .i64 2)) (fun _ hk => hk.2) (.int .i64 1)) (fun _ hk => hk.2) (.int .i64 1)) (fun _ hk => hk.2) (.slice Ao4 y410.length co4)) (fun _ hk => hk.2) (.int .i64 5)) (fun _ hk => hk.2) (.int .i64 1)) (fun _ hk => hk.2) (.int .i64 0)) (fun _ hk => hk.2) (.int .i64 0)) (fun _ hk => hk.2) (.int .i64 0)) (fun _ hk => hk.2) (.int .i64 0)) (fun _ hk => hk.2) (.int .i64 0)) (fun _ hk => hk.2) (.string (⟨#[]⟩ : ByteArray))) (fun _ hk => hk.2) (.string (⟨#[97]⟩ : ByteArray))) (fun _ hk => trivial), by repeat (first | (with_reducible first | exact HB.out | apply below_alloc | apply pw_below_drewN | apply below_drew1 | refine below_set ?_ GE409.out) | exact HB.out)⟩
def topiarylaw09_first.f  : Option (Int × Int × Int × List Int × Int × Int × Int × Int × Int × Int × Int × ByteArray × ByteArray) := some (1, 0, 1, ([] : List Int), 1, 1, 0, 0, 0, 0, 0, (⟨#[112]⟩ : ByteArray), (⟨#[]⟩ : ByteArray))
set_option maxHeartbeats 8000000 in
set_option maxRecDepth 100000 in
theorem topiarylaw09_first.calls  (r1 : Int) (r2 : Int) (r3 : Int) (r4 : List Int) (r5 : Int) (r6 : Int) (r7 : Int) (r8 : Int) (r9 : Int) (r10 : Int) (r11 : Int) (r12 : ByteArray) (r13 : ByteArray) (w : World) (h : topiarylaw09_first.f  = some (r1, r2, r3, r4, r5, r6, r7, r8, r9, r10, r11, r12, r13)) :
  Calls Try.prog 29 #[] w fun e w' => ∃ v3_ : Value, e = .returned (.agg #[.int .i64 r1, .int .i64 r2, .int .i64 r3, v3_, .int .i64 r5, .int .i64 r6, .int .i64 r7, .int .i64 r8, .int .i64 r9, .int .i64 r10, .int .i64 r11, .string r12, .string r13]) ∧ Kd.R (Kd.int .i64) 3 w' w.heap.size (fun _ => True) v3_ r4 ∧ Below w.heap.size w w' := by
 have hu32 := Try.underlying32
 have hu30 := Try.underlying30
 have HB := Aside0.mk (Below.refl w.heap.size w)
 have H : (some (1, 0, 1, ([] : List Int), 1, 1, 0, 0, 0, 0, 0, (⟨#[112]⟩ : ByteArray), (⟨#[]⟩ : ByteArray))) = some (r1, r2, r3, r4, r5, r6, r7, r8, r9, r10, r11, r12, r13) := h
 clear h
 simp only [Option.some.injEq, Prod.mk.injEq] at H
 obtain ⟨rfl, rfl, rfl, rfl, rfl, rfl, rfl, rfl, rfl, rfl, rfl, rfl, rfl⟩ := H
 go_enter Try.func29, Try.ntmps29
 go_wp2_with (first | ((with_reducible refine gate_dst (N := 0) rfl ?_); refine box_event ?hg (N := 0) ?hd (cs := #[.int .i64 0, .int .i64 0, .int .i64 0, .slice none 0 0, .int .i64 0, .int .i64 0, .int .i64 0, .int .i64 0, .int .i64 0, .int .i64 0, .int .i64 0, .string (⟨#[]⟩ : ByteArray), .string (⟨#[]⟩ : ByteArray)]) (t := 32) ?hr ?_; (case hd => rfl); (case hg => rfl); (case hr => first | (go_simp; done) | (go_simp; rfl)); intro gb413 hg w1 hbox hb; have n0_ := Aside0.mk (below_step (by repeat (first | (with_reducible first | exact HB.out | apply below_alloc | apply pw_below_drewN | apply below_drew1) | exact HB.out)) hb); have n1_ := Aside0.mk (hbox); have n2_ := Aside0.mk ((by rw [hg]; exact (below_size (by repeat (first | (with_reducible first | exact HB.out | apply below_alloc | apply pw_below_drewN | apply below_drew1) | exact HB.out))) : w.heap.size ≤ gb413)); have n3_ := Aside0.mk ((by rw [hg]; exact (below_size (by repeat (first | (with_reducible first | exact HB.out | apply below_alloc | apply pw_below_drewN | apply below_drew1) | exact HB.out))) : w.heap.size ≤ gb413)); clear HB; have HB := n0_; have BK413 := n1_; have GW413 := n2_; have GE413 := n3_; clear n0_ n1_ n2_ n3_; clear hb hbox hg) | ((with_reducible refine gate_dst (N := 1) rfl ?_); refine box_event ?hg (N := 1) ?hd (cs := #[.int .i64 0, .int .i64 0]) (t := 30) ?hr ?_; (case hd => rfl); (case hg => rfl); (case hr => first | (go_simp; done) | (go_simp; rfl)); intro gb414 hg w2 hbox hb; have n0_ := Aside0.mk (blk_below (g := gb413) (o := .cells #[.int .i64 0, .int .i64 0, .int .i64 0, .slice none 0 0, .int .i64 0, .int .i64 0, .int .i64 0, .int .i64 0, .int .i64 0, .int .i64 0, .int .i64 0, .string (⟨#[]⟩ : ByteArray), .string (⟨#[]⟩ : ByteArray)] 32 (0, 0)) (by (with_reducible repeat (first | refine blk_drewN ?_ _ | refine blk_drew ?_ | refine blk_alloc ?_ _)); exact BK413.out) hb); have n1_ := Aside0.mk (below_step (by repeat (first | (with_reducible first | exact HB.out | apply below_alloc | apply pw_below_drewN | apply below_drew1 | refine below_set ?_ GE413.out) | exact HB.out)) hb); have n2_ := Aside0.mk (hbox); have n3_ := Aside0.mk ((by rw [hg]; exact (below_size (by repeat (first | (with_reducible first | exact HB.out | apply below_alloc | apply pw_below_drewN | apply below_drew1 | refine below_set ?_ GE413.out) | exact HB.out))) : w.heap.size ≤ gb414)); have n4_ := Aside0.mk ((by rw [hg]; exact (below_size (by repeat (first | (with_reducible first | exact HB.out | apply below_alloc | apply pw_below_drewN | apply below_drew1 | refine below_set ?_ GE413.out) | exact HB.out))) : w.heap.size ≤ gb414)); have n5_ := Aside0.mk ((by rw [hg]; exact Nat.ne_of_lt (blk_lt (g := gb413) (o := .cells #[.int .i64 0, .int .i64 0, .int .i64 0, .slice none 0 0, .int .i64 0, .int .i64 0, .int .i64 0, .int .i64 0, .int .i64 0, .int .i64 0, .int .i64 0, .string (⟨#[]⟩ : ByteArray), .string (⟨#[]⟩ : ByteArray)] 32 (0, 0)) (by (with_reducible repeat (first | refine blk_drewN ?_ _ | refine blk_drew ?_ | refine blk_alloc ?_ _)); exact BK413.out)) : gb413 ≠ gb414)); have n6_ := Aside0.mk ((by rw [hg]; exact Nat.ne_of_gt (blk_lt (g := gb413) (o := .cells #[.int .i64 0, .int .i64 0, .int .i64 0, .slice none 0 0, .int .i64 0, .int .i64 0, .int .i64 0, .int .i64 0, .int .i64 0, .int .i64 0, .int .i64 0, .string (⟨#[]⟩ : ByteArray), .string (⟨#[]⟩ : ByteArray)] 32 (0, 0)) (by (with_reducible repeat (first | refine blk_drewN ?_ _ | refine blk_drew ?_ | refine blk_alloc ?_ _)); exact BK413.out)) : gb414 ≠ gb413)); clear BK413; clear HB; have BK413 := n0_; have HB := n1_; have BK414 := n2_; have GW414 := n3_; have GE414 := n4_; have NB413_414 := n5_; have NB414_413 := n6_; clear n0_ n1_ n2_ n3_ n4_ n5_ n6_; clear hb hbox hg; have hnb3 := NB414_413.out; have hnc3 := NB413_414.out; have hcz4_0 : w2.cell? ⟨gb414, 0, none⟩ = some (.int .i64 0) := (blk_cell BK414.out 0).trans rfl; have hcz4_1 : w2.cell? ⟨gb414, 1, none⟩ = some (.int .i64 0) := (blk_cell BK414.out 1).trans rfl; have hfz4_0 := blk_frozen BK414.out 0; have hfz4_1 := blk_frozen BK414.out 1; obtain ⟨hcz5_0, hcz5_1, hcz5_2, hcz5_3, hcz5_4, hcz5_5, hcz5_6, hcz5_7, hcz5_8, hcz5_9, hcz5_10, hcz5_11, hcz5_12⟩ := cells13 BK413.out; obtain ⟨hfz5_0, hfz5_1, hfz5_2, hfz5_3, hfz5_4, hfz5_5, hfz5_6, hfz5_7, hfz5_8, hfz5_9, hfz5_10, hfz5_11, hfz5_12⟩ := froz13 BK413.out))
 refine bodyPost_ret (results_cell_row rfl _ _ gb413 32 #[.int .i64 1, .int .i64 0, .int .i64 1, .slice none 0 0, .int .i64 1, .int .i64 1, .int .i64 0, .int .i64 0, .int .i64 0, .int .i64 0, .int .i64 0, .string (⟨#[112]⟩ : ByteArray), .string (⟨#[]⟩ : ByteArray)] (0, 0) _ rfl (by (with_reducible repeat (first | refine blk_drewN ?_ _ | refine blk_drew ?_ | refine blk_alloc ?_ _)); refine blk_put (cs := #[.int .i64 1, .int .i64 0, .int .i64 1, .slice none 0 0, .int .i64 1, .int .i64 1, .int .i64 0, .int .i64 0, .int .i64 0, .int .i64 0, .int .i64 0, .string (⟨#[112]⟩ : ByteArray), .string (⟨#[]⟩ : ByteArray)]) ?_ 12 _ rfl; (with_reducible repeat (first | refine blk_drewN ?_ _ | refine blk_drew ?_ | refine blk_alloc ?_ _)); refine blk_put (cs := #[.int .i64 1, .int .i64 0, .int .i64 1, .slice none 0 0, .int .i64 1, .int .i64 1, .int .i64 0, .int .i64 0, .int .i64 0, .int .i64 0, .int .i64 0, .string (⟨#[]⟩ : ByteArray), .string (⟨#[]⟩ : ByteArray)]) ?_ 11 _ rfl; (with_reducible repeat (first | refine blk_drewN ?_ _ | refine blk_drew ?_ | refine blk_alloc ?_ _)); refine blk_put (cs := #[.int .i64 1, .int .i64 0, .int .i64 1, .slice none 0 0, .int .i64 1, .int .i64 1, .int .i64 0, .int .i64 0, .int .i64 0, .int .i64 0, .int .i64 0, .string (⟨#[]⟩ : ByteArray), .string (⟨#[]⟩ : ByteArray)]) ?_ 10 _ rfl; (with_reducible repeat (first | refine blk_drewN ?_ _ | refine blk_drew ?_ | refine blk_alloc ?_ _)); refine blk_put (cs := #[.int .i64 1, .int .i64 0, .int .i64 1, .slice none 0 0, .int .i64 1, .int .i64 1, .int .i64 0, .int .i64 0, .int .i64 0, .int .i64 0, .int .i64 0, .string (⟨#[]⟩ : ByteArray), .string (⟨#[]⟩ : ByteArray)]) ?_ 9 _ rfl; (with_reducible repeat (first | refine blk_drewN ?_ _ | refine blk_drew ?_ | refine blk_alloc ?_ _)); refine blk_put (cs := #[.int .i64 1, .int .i64 0, .int .i64 1, .slice none 0 0, .int .i64 1, .int .i64 1, .int .i64 0, .int .i64 0, .int .i64 0, .int .i64 0, .int .i64 0, .string (⟨#[]⟩ : ByteArray), .string (⟨#[]⟩ : ByteArray)]) ?_ 8 _ rfl; (with_reducible repeat (first | refine blk_drewN ?_ _ | refine blk_drew ?_ | refine blk_alloc ?_ _)); refine blk_put (cs := #[.int .i64 1, .int .i64 0, .int .i64 1, .slice none 0 0, .int .i64 1, .int .i64 1, .int .i64 0, .int .i64 0, .int .i64 0, .int .i64 0, .int .i64 0, .string (⟨#[]⟩ : ByteArray), .string (⟨#[]⟩ : ByteArray)]) ?_ 7 _ rfl; (with_reducible repeat (first | refine blk_drewN ?_ _ | refine blk_drew ?_ | refine blk_alloc ?_ _)); refine blk_put (cs := #[.int .i64 1, .int .i64 0, .int .i64 1, .slice none 0 0, .int .i64 1, .int .i64 1, .int .i64 0, .int .i64 0, .int .i64 0, .int .i64 0, .int .i64 0, .string (⟨#[]⟩ : ByteArray), .string (⟨#[]⟩ : ByteArray)]) ?_ 6 _ rfl; (with_reducible repeat (first | refine blk_drewN ?_ _ | refine blk_drew ?_ | refine blk_alloc ?_ _)); refine blk_put (cs := #[.int .i64 1, .int .i64 0, .int .i64 1, .slice none 0 0, .int .i64 1, .int .i64 0, .int .i64 0, .int .i64 0, .int .i64 0, .int .i64 0, .int .i64 0, .string (⟨#[]⟩ : ByteArray), .string (⟨#[]⟩ : ByteArray)]) ?_ 5 _ rfl; (with_reducible repeat (first | refine blk_drewN ?_ _ | refine blk_drew ?_ | refine blk_alloc ?_ _)); refine blk_put (cs := #[.int .i64 1, .int .i64 0, .int .i64 1, .slice none 0 0, .int .i64 0, .int .i64 0, .int .i64 0, .int .i64 0, .int .i64 0, .int .i64 0, .int .i64 0, .string (⟨#[]⟩ : ByteArray), .string (⟨#[]⟩ : ByteArray)]) ?_ 4 _ rfl; (with_reducible repeat (first | refine blk_drewN ?_ _ | refine blk_drew ?_ | refine blk_alloc ?_ _)); refine blk_put (cs := #[.int .i64 1, .int .i64 0, .int .i64 1, .slice none 0 0, .int .i64 0, .int .i64 0, .int .i64 0, .int .i64 0, .int .i64 0, .int .i64 0, .int .i64 0, .string (⟨#[]⟩ : ByteArray), .string (⟨#[]⟩ : ByteArray)]) ?_ 3 _ rfl; (with_reducible repeat (first | refine blk_drewN ?_ _ | refine blk_drew ?_ | refine blk_alloc ?_ _)); refine blk_put (cs := #[.int .i64 1, .int .i64 0, .int .i64 0, .slice none 0 0, .int .i64 0, .int .i64 0, .int .i64 0, .int .i64 0, .int .i64 0, .int .i64 0, .int .i64 0, .string (⟨#[]⟩ : ByteArray), .string (⟨#[]⟩ : ByteArray)]) ?_ 2 _ rfl; (with_reducible repeat (first | refine blk_drewN ?_ _ | refine blk_drew ?_ | refine blk_alloc ?_ _)); refine blk_put (cs := #[.int .i64 1, .int .i64 0, .int .i64 0, .slice none 0 0, .int .i64 0, .int .i64 0, .int .i64 0, .int .i64 0, .int .i64 0, .int .i64 0, .int .i64 0, .string (⟨#[]⟩ : ByteArray), .string (⟨#[]⟩ : ByteArray)]) ?_ 1 _ rfl; (with_reducible repeat (first | refine blk_drewN ?_ _ | refine blk_drew ?_ | refine blk_alloc ?_ _)); refine blk_put (cs := #[.int .i64 0, .int .i64 0, .int .i64 0, .slice none 0 0, .int .i64 0, .int .i64 0, .int .i64 0, .int .i64 0, .int .i64 0, .int .i64 0, .int .i64 0, .string (⟨#[]⟩ : ByteArray), .string (⟨#[]⟩ : ByteArray)]) ?_ 0 _ rfl; (with_reducible repeat (first | refine blk_drewN ?_ _ | refine blk_drew ?_ | refine blk_alloc ?_ _)); refine blk_far ?_ NB413_414.out _; (with_reducible repeat (first | refine blk_drewN ?_ _ | refine blk_drew ?_ | refine blk_alloc ?_ _)); refine blk_far ?_ NB413_414.out _; (with_reducible repeat (first | refine blk_drewN ?_ _ | refine blk_drew ?_ | refine blk_alloc ?_ _)); exact BK413.out) Try.underlying32 rfl (by kernel_rfl)) rfl ?_
 exact ⟨_, by first | rfl | (simp [errW_none, errW_some] <;> rfl) | (simp [*, errW_none, errW_some] <;> rfl), by first | exact Kd.R_nil _ _ _ _ _ | exact Kd.N_nil _ _ _ _ _ | exact Kd.V_nil _ _ _ _ _ | exact Kd.Q_nil _ _ _ _ _ | exact Kd.S_nil _ _ _ _ _, by repeat (first | (with_reducible first | exact HB.out | apply below_alloc | apply pw_below_drewN | apply below_drew1 | refine below_set ?_ GE413.out | refine below_set ?_ GE414.out) | exact HB.out)⟩
def x2 : S32 := ⟨⟨2, 1⟩, 1, [1], 5, ⟨1, 0⟩, ⟨0, 0⟩, ⟨0, 0⟩, ⟨#[]⟩, ⟨#[97]⟩⟩
def x1 : S32 := ⟨⟨1, 0⟩, 1, [], 1, ⟨1, 0⟩, ⟨0, 0⟩, ⟨0, 0⟩, ⟨#[112]⟩, ⟨#[]⟩⟩
theorem take_x2 : takeF 1 [] [] x2 = ([x2], [], 0) := by kernel_rfl
theorem take_x1 : takeF 1 [x2] [] x1 = ([], [x1, x2], 0) := by kernel_rfl
theorem check_x2 : checkX x2 = 0 := by kernel_rfl
theorem good_x2 : Good [x2] := ⟨fun y hy => by rw [List.mem_singleton.1 hy]; exact check_x2, List.pairwise_singleton _ _⟩
def Yes (w : World) (e : Ending) (w' : World) : Prop := e = .returned (.bool true) ∧ Below w.heap.size w w'
set_option maxHeartbeats 8000000 in
set_option maxRecDepth 100000 in
theorem awake_calls (w : World) : Calls Try.prog 17 #[] w (Yes w) := by
 go_enter Try.func17, Try.ntmps17
 go_wp2_with (fail)
 refine (new_calls w 1 (by decide) (by decide)).mono ?_
 rintro e w1 ⟨g, rfl, hb1, hw1⟩
 have HB1 := Aside0.mk hb1.bound
 have HW1 := Aside0.mk hw1
 clear hb1 hw1
 go_wp2_with (fail)
 refine (topiarylaw09_second.calls _ _ _ _ _ _ _ _ _ _ _ _ _ w1 rfl).mono ?_
 rintro e w2 ⟨v2, rfl, hv2, hw2⟩
 obtain ⟨A2, c2, rfl⟩ := Kd.R_slice hv2
 have HV2 := Aside0.mk (Kd.R_mono (Kd.R_bound hv2) (ok' := fun k => w1.heap.size ≤ k ∧ k < w2.heap.size) (fun k hk => ⟨hk.2.1, hk.2.2.1⟩))
 have HW2 := Aside0.mk (HW1.out.trans (hw2.mono HW1.out.size))
 have HB2 := Aside0.mk (HB1.out.below hw2)
 clear hv2 hw2
 go_wp2_with (fail)
 refine (take13_calls HB2.out Good.nil (by decide) (by decide) none 0 [] (Kd.C_nil _ _) (Nat.le_refl _) x2 A2 c2 (Kd.R_F HV2.out) (fun k hk hp => by have := hp.2; omega) (Kd.R_reads' HV2.out).2.1 (by decide)).mono ?_
 rw [take_x2]
 rintro e w3 ⟨P3, O3, v3, rfl, hb3, hs3, hp3, -, -, hk3⟩
 obtain ⟨A3, c3, rfl⟩ := Kd.S_slice hs3
 have HB3 := Aside0.mk hb3.bound
 have HP3 := Aside0.mk hp3
 have HK3 := Aside0.mk ((Kept.of_below HW2.out (fun k => w.heap.size ≤ k)).then_ hk3 (fun k hk => .inl hk.1))
 clear hb3 hs3 hp3 hk3
 go_wp2_with (go_at_call 16; refine (len_calls HB3.out).mono ?_; rintro e w4 ⟨rfl, rfl⟩)
 refine (topiarylaw09_first.calls _ _ _ _ _ _ _ _ _ _ _ _ _ w4 rfl).mono ?_
 rintro e w5 ⟨v5, rfl, hv5, hw5⟩
 obtain ⟨A5, c5, rfl⟩ := Kd.R_slice hv5
 have HV5 := Aside0.mk (Kd.R_mono (Kd.R_bound hv5) (ok' := fun k => w4.heap.size ≤ k ∧ k < w5.heap.size) (fun k hk => ⟨hk.2.1, hk.2.2.1⟩))
 have HK5 := Aside0.mk (HK3.out.below hw5)
 have HB5 := Aside0.mk (HB3.out.below hw5)
 clear hv5 hw5
 go_wp2_with (fail)
 refine (take13_calls HB5.out good_x2 (by decide) (by decide) none 0 [] (Kd.C_nil _ _) (Nat.le_refl _) x1 A5 c5 (Kd.R_F HV5.out) (fun k hk hp => by have := hp.2; omega) (Kd.R_reads' HV5.out).2.1 (by decide)).mono ?_
 rw [take_x1]
 rintro e w6 ⟨P6, O6, v6, rfl, hb6, hs6, hp6, -, -, hk6⟩
 obtain ⟨gm, cap6, rfl, -, -, -⟩ := Kd.S_form hs6 (by decide)
 have HB6 := Aside0.mk hb6
 have HW6 := Aside0.mk ((HK5.out.then_ hk6 (fun k hk => by
  rcases HP3.out k hk.1 with h | h
  ·exact .inl h.1
  ·exact .inr (Nat.le_trans HW2.out.size h))).to_below (fun _ h => h))
 obtain ⟨c6', hcl, hM, hcc, hfr⟩ := Kd.R_elem (Kd.S_R hs6) z32 0 (by decide) (by decide)
 obtain ⟨vm, rfl, hvm⟩ := chM hM
 have q1 : w6.cell? ⟨gm, 4, none⟩ = some (.int .i64 1) := hcc 4 _ rfl
 clear hb6 hs6 hp6 hk6 hcl hM hcc hfr hvm
 go_wp2_with (go_at_call 16; refine (len_calls HB6.out).mono ?_; rintro e w7 ⟨rfl, rfl⟩)
 go_ret
 exact ⟨rfl, HW6.out⟩
def topiaryref02_Same.l0 : Nat → List Int → List Int → Int → Option (Bool)
 | 0, _, _, _ => none
 | k + 1, x0, x1, x5 => if x5 < (x0.length : Int) then (if 0 ≤ x5 then (if x5 < (x1.length : Int) then (if (rd x0 x5) = (rd x1 x5) then (topiaryref02_Same.l0 k x0 x1 (wrap64 (x5 + 1))) else (some false)) else (none)) else (none)) else (some true)
def topiaryref02_Same.f (k : Nat) (l0 : List Int) (l1 : List Int) : Option (Bool) := if (l0.length : Int) = (l1.length : Int) then (topiaryref02_Same.l0 k l0 l1 0) else (some false)
theorem topiaryref02_Same.mono_l : ∀ k, (∀ y0 y1 y2, LeO (topiaryref02_Same.l0 k y0 y1 y2) (topiaryref02_Same.l0 (k + 1) y0 y1 y2))
 | 0 => fun _ _ _ r h => by simp [topiaryref02_Same.l0] at h
 | k + 1 => by
  have ih0 := topiaryref02_Same.mono_l k
  ·intro y0 y1 y2
   unfold topiaryref02_Same.l0
   repeat' first
   | (with_reducible exact ih0 _ _ _)
   | (with_reducible exact LeO.refl _)
   | (with_reducible exact LeO.none _)
   | (with_reducible refine LeO.ite ?_ ?_)
   | (with_reducible refine LeO.bind ?_ (fun _ => ?_))
   | exact ih0 _ _ _
   | exact LeO.none _
   | refine LeO.ite ?_ ?_
   | refine LeO.bind ?_ (fun _ => ?_)
theorem topiaryref02_Same.mono : ∀ a0 a1 k, LeO (topiaryref02_Same.f k a0 a1) (topiaryref02_Same.f (k + 1) a0 a1) := by
 intro a0 a1 k
 have ih0 := topiaryref02_Same.mono_l k
 unfold topiaryref02_Same.f
 repeat' first
   | (with_reducible exact ih0 _ _ _)
   | (with_reducible exact LeO.refl _)
   | (with_reducible exact LeO.none _)
   | (with_reducible refine LeO.ite ?_ ?_)
   | (with_reducible refine LeO.bind ?_ (fun _ => ?_))
   | exact ih0 _ _ _
   | exact LeO.none _
   | refine LeO.ite ?_ ?_
   | refine LeO.bind ?_ (fun _ => ?_)
set_option maxHeartbeats 8000000 in
set_option maxRecDepth 100000 in
theorem topiaryref02_Same.calls (k : Nat) (A0 : Option Addr) (c0 : Nat) (l0 : List Int) (A1 : Option Addr) (c1 : Nat) (l1 : List Int) (r : Bool) (w : World) (hr0 : Kd.C (Kd.int .i64) w A0 l0.length l0) (hc0 : l0.length ≤ c0) (hr1 : Kd.C (Kd.int .i64) w A1 l1.length l1) (hc1 : l1.length ≤ c1) (h : topiaryref02_Same.f k l0 l1 = some r) :
  Calls Try.prog 24 #[.slice A0 l0.length c0, .slice A1 l1.length c1] w fun e w' => e = .returned (.bool r) ∧ Drawn0 w w' := by
 have HR0 := Aside0.mk hr0
 have HC0 := Aside0.mk hc0
 clear hr0 hc0
 have HR1 := Aside0.mk hr1
 have HC1 := Aside0.mk hc1
 clear hr1 hc1
 have H : (if (l0.length : Int) = (l1.length : Int) then (topiaryref02_Same.l0 k l0 l1 0) else (some false)) = some r := h
 clear h
 by_cases c3 : (l0.length : Int) = (l1.length : Int)
 ·rw [if_pos c3] at H
  have c3b0 : ((l0.length : Int) == (l1.length : Int)) = true := beq_iff_eq.mpr c3
  have c3b1 : ((l0.length : Int) != (l1.length : Int)) = false := bne_eq_false_iff_eq.mpr c3
  have c3b2 : (l0.length == l1.length) = true := by first | simpa using c3 | (simp at c3 ⊢; omega)
  clear c3
  have H' := Aside0.mk H
  clear H
  go_enter Try.func24, Try.ntmps24
  go_wp2
  repeat (go_quiet (fail); try go_wp2)
  go_loopg [5] k (fun kq v5 w' => ∃ (x5_1 : Int), v5 = .int .i64 x5_1 ∧ Aside0 (topiaryref02_Same.l0 kq l0 l1 x5_1 = some r) ∧ Aside0 (kq ≤ k) ∧ Drawn0 w w')
  case atStart => exact ⟨(0), (by first | rfl | (simp; done) | (simp [*]; done)), H', ⟨Nat.le_refl _⟩, by repeat (first | exact Drawn0.refl _ | apply Drawn0.step)⟩
  case round =>
   clear H'
   (try clear c1); (try clear c2); (try clear p2); (try clear c3); (try clear c3b0); (try clear c3b1); (try clear c3b2)
   obtain ⟨x5_1, rfl, HA, HK1, ⟨m1, rfl⟩⟩ := hrel
   cases gk with
   | zero => exact absurd HA.out (by simp [topiaryref02_Same.l0])
   | succ k1 =>
    have H := HA.out
    clear HA
    simp only [topiaryref02_Same.l0] at H
    by_cases c4 : x5_1 < (l0.length : Int)
    ·rw [if_pos c4] at H
     have c4b0 : decide (x5_1 < (l0.length : Int)) = true := decide_eq_true c4
     clear c4
     by_cases c5 : 0 ≤ x5_1
     ·rw [if_pos c5] at H
      have c5b0 : decide (0 ≤ x5_1) = true := decide_eq_true c5
      clear c5
      by_cases c6 : x5_1 < (l1.length : Int)
      ·rw [if_pos c6] at H
       have c6b0 : decide (x5_1 < (l1.length : Int)) = true := decide_eq_true c6
       clear c6
       by_cases c7 : (rd l0 x5_1) = (rd l1 x5_1)
       ·rw [if_pos c7] at H
        have c7b0 : ((rd l0 x5_1) == (rd l1 x5_1)) = true := beq_iff_eq.mpr c7
        have c7b1 : ((rd l0 x5_1) != (rd l1 x5_1)) = false := bne_eq_false_iff_eq.mpr c7
        clear c7
        have H' := Aside0.mk H
        clear H
        have p121 : 0 ≤ (x5_1 : Int) := of_decide_eq_true (by first | (with_reducible assumption) | assumption)
        have q121 : x5_1 < (l0.length : Int) := of_decide_eq_true (by first | (with_reducible assumption) | assumption)
        obtain ⟨ad121, e121, hx121_0⟩ := Kd.at_int HR0.out x5_1 p121 q121
        cases e121
        replace p121 := eq_true p121
        replace q121 := eq_true q121
        have p122 : 0 ≤ (x5_1 : Int) := of_decide_eq_true (by first | (with_reducible assumption) | assumption)
        have q122 : x5_1 < (l1.length : Int) := of_decide_eq_true (by first | (with_reducible assumption) | assumption)
        obtain ⟨ad122, e122, hx122_0⟩ := Kd.at_int HR1.out x5_1 p122 q122
        cases e122
        replace p122 := eq_true p122
        replace q122 := eq_true q122
        go_wp2
        repeat (go_quiet (fail); try go_wp2)
        go_roundg k1
        case measure => have := HK1.out; omega
        case rel => exact ⟨(wrap64 (x5_1 + 1)), (by first | rfl | (simp; done) | (simp [*]; done)), H', ⟨by have := HK1.out; omega⟩, by repeat (first | exact Drawn0.refl _ | apply Drawn0.step)⟩
       ·rw [if_neg c7] at H
        have c7b0 : ((rd l0 x5_1) == (rd l1 x5_1)) = false := beq_eq_false_iff_ne.mpr c7
        have c7b1 : ((rd l0 x5_1) != (rd l1 x5_1)) = true := bne_iff_ne.mpr c7
        obtain rfl := Option.some.inj H
        have p121 : 0 ≤ (x5_1 : Int) := of_decide_eq_true (by first | (with_reducible assumption) | assumption)
        have q121 : x5_1 < (l0.length : Int) := of_decide_eq_true (by first | (with_reducible assumption) | assumption)
        obtain ⟨ad121, e121, hx121_0⟩ := Kd.at_int HR0.out x5_1 p121 q121
        cases e121
        replace p121 := eq_true p121
        replace q121 := eq_true q121
        have p122 : 0 ≤ (x5_1 : Int) := of_decide_eq_true (by first | (with_reducible assumption) | assumption)
        have q122 : x5_1 < (l1.length : Int) := of_decide_eq_true (by first | (with_reducible assumption) | assumption)
        obtain ⟨ad122, e122, hx122_0⟩ := Kd.at_int HR1.out x5_1 p122 q122
        cases e122
        replace p122 := eq_true p122
        replace q122 := eq_true q122
        go_wp2
        repeat (go_quiet (fail); try go_wp2)
        go_ret
        exact ⟨by first | rfl | (simp; done) | (simp [*]; done), by repeat (first | exact Drawn0.refl _ | apply Drawn0.step)⟩
      ·rw [if_neg c6] at H
       exact absurd H (by simp)
     ·rw [if_neg c5] at H
      exact absurd H (by simp)
    ·rw [if_neg c4] at H
     have c4b0 : decide (x5_1 < (l0.length : Int)) = false := decide_eq_false c4
     clear c4
     obtain rfl := Option.some.inj H
     go_wp2
     repeat (go_quiet (fail); try go_wp2)
     go_ret
     exact ⟨by first | rfl | (simp; done) | (simp [*]; done), by repeat (first | exact Drawn0.refl _ | apply Drawn0.step)⟩
 ·rw [if_neg c3] at H
  have c3b0 : ((l0.length : Int) == (l1.length : Int)) = false := beq_eq_false_iff_ne.mpr c3
  have c3b1 : ((l0.length : Int) != (l1.length : Int)) = true := bne_iff_ne.mpr c3
  have c3b2 : (l0.length == l1.length) = false := by first | simpa using c3 | (simp at c3 ⊢; omega)
  obtain rfl := Option.some.inj H
  go_enter Try.func24, Try.ntmps24
  go_wp2
  repeat (go_quiet (fail); try go_wp2)
  go_ret
  exact ⟨by first | rfl | (simp; done) | (simp [*]; done), by repeat (first | exact Drawn0.refl _ | apply Drawn0.step)⟩
end Go.Proofs.Ytnopjjilpgekfaa.PCa
namespace Go.Proofs.Ytnopjjilpgekfaa.PCa
open Go.RowKit Go.Proofs.YtnopjjilpgekfaaW.PrintWords Go.Proofs.YtnopjjilpgekfaaW.PrintLast Go.Proofs.YtnopjjilpgekfaaW.PrintMore
attribute [local go_sem] max2_int min2_int max_two min_two max_three min_three max_four min_four
set_option linter.unusedVariables false
set_option linter.unusedSimpArgs false
attribute [local go_sem high] eqA30
def topiaryref05_Same.f (k : Nat) (a0_0 : Int) (a0_1 : Int) (a0_2 : Int) (l0_3 : List Int) (a0_4 : Int) (a0_5 : Int) (a0_6 : Int) (a0_7 : Int) (a0_8 : Int) (a0_9 : Int) (a0_10 : Int) (a0_11 : ByteArray) (a0_12 : ByteArray) (a1_0 : Int) (a1_1 : Int) (a1_2 : Int) (l1_3 : List Int) (a1_4 : Int) (a1_5 : Int) (a1_6 : Int) (a1_7 : Int) (a1_8 : Int) (a1_9 : Int) (a1_10 : Int) (a1_11 : ByteArray) (a1_12 : ByteArray) : Option (Bool) := if (a0_0 == a1_0 && (a0_1 == a1_1)) = true then (if a0_2 = a1_2 then ((topiaryref02_Same.f k l0_3 l1_3).bind fun t125 => (if t125 = true then (if a0_4 = a1_4 then (if (a0_5 == a1_5 && (a0_6 == a1_6)) = true then (if (a0_7 == a1_7 && (a0_8 == a1_8)) = true then (if (a0_9 == a1_9 && (a0_10 == a1_10)) = true then (if a0_11.toList = a1_11.toList then (some (a0_12.toList == a1_12.toList)) else (some false)) else (some false)) else (some false)) else (some false)) else (some false)) else (some false))) else (some false)) else (some false)
theorem topiaryref05_Same.mono : ∀ a0 a1 a2 a3 a4 a5 a6 a7 a8 a9 a10 a11 a12 a13 a14 a15 a16 a17 a18 a19 a20 a21 a22 a23 a24 a25 k, LeO (topiaryref05_Same.f k a0 a1 a2 a3 a4 a5 a6 a7 a8 a9 a10 a11 a12 a13 a14 a15 a16 a17 a18 a19 a20 a21 a22 a23 a24 a25) (topiaryref05_Same.f (k + 1) a0 a1 a2 a3 a4 a5 a6 a7 a8 a9 a10 a11 a12 a13 a14 a15 a16 a17 a18 a19 a20 a21 a22 a23 a24 a25) := by
 intro a0 a1 a2 a3 a4 a5 a6 a7 a8 a9 a10 a11 a12 a13 a14 a15 a16 a17 a18 a19 a20 a21 a22 a23 a24 a25 k
 unfold topiaryref05_Same.f
 repeat' first
   | (with_reducible exact topiaryref02_Same.mono _ _ _)
   | (with_reducible exact LeO.refl _)
   | (with_reducible exact LeO.none _)
   | (with_reducible refine LeO.ite ?_ ?_)
   | (with_reducible refine LeO.bind ?_ (fun _ => ?_))
   | exact topiaryref02_Same.mono _ _ _
   | exact LeO.none _
   | refine LeO.ite ?_ ?_
   | refine LeO.bind ?_ (fun _ => ?_)
end Go.Proofs.Ytnopjjilpgekfaa.PCa
namespace Go.Proofs.Ytnopjjilpgekfaa.PCa
open Go.RowKit Go.Proofs.YtnopjjilpgekfaaW.PrintWords Go.Proofs.YtnopjjilpgekfaaW.PrintLast Go.Proofs.YtnopjjilpgekfaaW.PrintMore
attribute [local go_sem] max2_int min2_int max_two min_two max_three min_three max_four min_four
set_option linter.unusedVariables false
set_option linter.unusedSimpArgs false
def topiaryref05_SameAll.l0 : Nat → List (S32) → List (S32) → Int → Option (Bool)
 | 0, _, _, _ => none
 | k + 1, x0, x1, x5 => if x5 < (x0.length : Int) then (if 0 ≤ x5 then (if x5 < (x1.length : Int) then ((topiaryref05_Same.f k ((rd_T32 x0 x5).f0.f0) ((rd_T32 x0 x5).f0.f1) ((rd_T32 x0 x5).f1) ((rd_T32 x0 x5).f2) ((rd_T32 x0 x5).f3) ((rd_T32 x0 x5).f4.f0) ((rd_T32 x0 x5).f4.f1) ((rd_T32 x0 x5).f5.f0) ((rd_T32 x0 x5).f5.f1) ((rd_T32 x0 x5).f6.f0) ((rd_T32 x0 x5).f6.f1) ((rd_T32 x0 x5).f7) ((rd_T32 x0 x5).f8) ((rd_T32 x1 x5).f0.f0) ((rd_T32 x1 x5).f0.f1) ((rd_T32 x1 x5).f1) ((rd_T32 x1 x5).f2) ((rd_T32 x1 x5).f3) ((rd_T32 x1 x5).f4.f0) ((rd_T32 x1 x5).f4.f1) ((rd_T32 x1 x5).f5.f0) ((rd_T32 x1 x5).f5.f1) ((rd_T32 x1 x5).f6.f0) ((rd_T32 x1 x5).f6.f1) ((rd_T32 x1 x5).f7) ((rd_T32 x1 x5).f8)).bind fun t408 => (if t408 = true then (topiaryref05_SameAll.l0 k x0 x1 (wrap64 (x5 + 1))) else (some false))) else (none)) else (none)) else (some true)
def topiaryref05_SameAll.f (k : Nat) (l0 : List (S32)) (l1 : List (S32)) : Option (Bool) := if (l0.length : Int) = (l1.length : Int) then (topiaryref05_SameAll.l0 k l0 l1 0) else (some false)
theorem topiaryref05_SameAll.mono_l : ∀ k, (∀ y0 y1 y2, LeO (topiaryref05_SameAll.l0 k y0 y1 y2) (topiaryref05_SameAll.l0 (k + 1) y0 y1 y2))
 | 0 => fun _ _ _ r h => by simp [topiaryref05_SameAll.l0] at h
 | k + 1 => by
  have ih0 := topiaryref05_SameAll.mono_l k
  ·intro y0 y1 y2
   unfold topiaryref05_SameAll.l0
   repeat' first
   | (with_reducible exact ih0 _ _ _)
   | (with_reducible exact topiaryref05_Same.mono _ _ _ _ _ _ _ _ _ _ _ _ _ _ _ _ _ _ _ _ _ _ _ _ _ _ _)
   | (with_reducible exact LeO.refl _)
   | (with_reducible exact LeO.none _)
   | (with_reducible refine LeO.ite ?_ ?_)
   | (with_reducible refine LeO.bind ?_ (fun _ => ?_))
   | exact ih0 _ _ _
   | exact topiaryref05_Same.mono _ _ _ _ _ _ _ _ _ _ _ _ _ _ _ _ _ _ _ _ _ _ _ _ _ _ _
   | exact LeO.none _
   | refine LeO.ite ?_ ?_
   | refine LeO.bind ?_ (fun _ => ?_)
theorem topiaryref05_SameAll.mono : ∀ a0 a1 k, LeO (topiaryref05_SameAll.f k a0 a1) (topiaryref05_SameAll.f (k + 1) a0 a1) := by
 intro a0 a1 k
 have ih0 := topiaryref05_SameAll.mono_l k
 unfold topiaryref05_SameAll.f
 repeat' first
   | (with_reducible exact ih0 _ _ _)
   | (with_reducible exact topiaryref05_Same.mono _ _ _ _ _ _ _ _ _ _ _ _ _ _ _ _ _ _ _ _ _ _ _ _ _ _ _)
   | (with_reducible exact LeO.refl _)
   | (with_reducible exact LeO.none _)
   | (with_reducible refine LeO.ite ?_ ?_)
   | (with_reducible refine LeO.bind ?_ (fun _ => ?_))
   | exact ih0 _ _ _
   | exact topiaryref05_Same.mono _ _ _ _ _ _ _ _ _ _ _ _ _ _ _ _ _ _ _ _ _ _ _ _ _ _ _
   | exact LeO.none _
   | refine LeO.ite ?_ ?_
   | refine LeO.bind ?_ (fun _ => ?_)
end Go.Proofs.Ytnopjjilpgekfaa.PCa
namespace Go.Proofs.Ytnopjjilpgekfaa.PCa
open Go.RowKit Go.Proofs.YtnopjjilpgekfaaW.PrintWords Go.Proofs.YtnopjjilpgekfaaW.PrintLast Go.Proofs.YtnopjjilpgekfaaW.PrintMore
set_option linter.unusedVariables false
set_option linter.unusedSimpArgs false
/-- A law's buffer: its blocks are P, all of them the law's own. -/
structure BI (w0 W : World) (g : Nat) (room : Int) (L : List S32) (P : Nat → Prop) : Prop where
 buf : BufI W w0.heap.size P g room L
 lo : ∀ k, P k → w0.heap.size ≤ k
 hi : ∀ k, P k → k < W.heap.size
 good : Good L
 len : (L.length : Int) ≤ room
 rm : room ≤ 256
 bel : Below w0.heap.size w0 W
section
variable {w0 W W1 : World} {g : Nat} {room : Int} {L : List S32} {P : Nat → Prop}
theorem BI.below (h : BI w0 W g room L P) (hb : Below W.heap.size W W1) : BI w0 W1 g room L P :=
 ⟨h.buf.below hb, h.lo, fun k hk => Nat.lt_of_lt_of_le (h.hi k hk) hb.size, h.good, h.len, h.rm, h.bel.trans (hb.mono h.bel.size)⟩
end
theorem same02_self (l : List Int) : ∀ (n i k : Nat), i + n = l.length → l.length < 90000 → n < k → topiaryref02_Same.l0 k l l (i : Int) = some true := by
 intro n
 induction n with
 | zero =>
  intro i k hi hl hk
  obtain ⟨k, rfl⟩ : ∃ m, k = m + 1 := ⟨k - 1, by omega⟩
  rw [topiaryref02_Same.l0, if_neg (by omega)]
 | succ n ih =>
  intro i k hi hl hk
  obtain ⟨k, rfl⟩ : ∃ m, k = m + 1 := ⟨k - 1, by omega⟩
  rw [topiaryref02_Same.l0, if_pos (by omega), if_pos (by omega), if_pos (by omega), if_pos rfl, w1 (by omega)]
  exact ih (i + 1) k (by omega) hl (by omega)
abbrev bA (room : Int) (v : Value) : Array Value := #[.int .i64 room, v]
abbrev bL (room : Int) (v : Value) : List Value := [.int .i64 room, v]
theorem info52 : (Try.prog.info? 52).map (fun i => (i.zero, i.size)) = some (some (.agg #[.int .i64 0, .slice none 0 0]), 2) := by kernel_rfl
section
variable {o : Oper} {ops : Array Oper} {rest : List Oper} {a : Act} {Q : Exit → Act → World → Prop} {W : World} {room : Int} {v : Value}
theorem load52_run (ρ : Operand → Value) {p : Operand} (ho : o.op = .load 52 p) {ad : Addr} (hp : ρ p = .pointer (some ad)) (hc : ∀ j u, (bL room v)[j]? = some u → W.cell? (ad.add j) = some u) :
    (execOp ρ o).run Try.prog W = .ok (.value (.agg (bA room v))) W := by
  have e : execOp ρ o = (do let v ← Instr.loadAt 52 (ρ p); pure (.value v)) := by
    unfold execOp
    rw [ho]
  obtain ⟨i0, hi0, hzz⟩ := Option.map_eq_some_iff.1 info52
  simp only [Prod.mk.injEq] at hzz
  have hl := run_loadCells_list (P := Try.prog) W ad (bL room v) hc
  have hl2 : (loadCells ad 2).run Try.prog W = .ok (bA room v) W := hl
  rw [e, hp]
  simp [Instr.loadAt, Instr.sureAddr, loadVar, isAgg, run_underlying Try.underlying52, sizeOf, typeInfo, hi0, hzz.2, hl2]
theorem store52_run (ρ : Operand → Value) {p q : Operand} (ho : o.op = .store 52 p q) {g : Nat} (hp : ρ p = .pointer (some ⟨g, 0, none⟩)) (hq : ρ q = .agg (bA room v)) (hv : v.oneCell' = true) {cs : Array Value} (hg : W.heap[g]? = some (.cells cs 52 (0, 0))) (hs : cs.size = 2) :
    (execOp ρ o).run Try.prog W = .ok .skip (W.setRow g (bA room v)) := by
  have e : execOp ρ o = (do Instr.storeAt 52 (ρ p) (ρ q); pure .skip) := by
    unfold execOp
    rw [ho]
  obtain ⟨i0, hi0, hzz⟩ := Option.map_eq_some_iff.1 info52
  simp only [Prod.mk.injEq] at hzz
  have hone : ∀ u ∈ bL room v, u.oneCell' = true := by
    intro u hu
    simp only [bL, List.mem_cons, List.not_mem_nil, or_false] at hu
    rcases hu with rfl | rfl <;> first | rfl | exact hv
  have hst := run_storeCells_at Try.prog g 0 52 (bL room v) 0 cs W hg (by rw [hs]; exact (Nat.le_refl 2 : 0 + 0 + 2 ≤ 2)) hone
  have hrow : (cs.toList.take (0 + 0) ++ bL room v ++ cs.toList.drop (0 + 0 + (bL room v).length)).toArray = bA room v := by
    rw [List.drop_of_length_le (by rw [Array.length_toList, hs]; exact (Nat.le_refl 2 : 2 ≤ 0 + 0 + 2))]
    rfl
  rw [hrow] at hst
  have hcl : v.cells = #[v] := by
    cases v <;> first | rfl | simp [Value.oneCell'] at hv
  have hcells : (Value.agg (bA room v)).cells = bA room v := by
    unfold Value.cells
    simp [hcl]
  rw [e, hp, hq]
  simp [Instr.storeAt, Instr.sureAddr, storeVar, sizeOf, typeInfo, hi0, hzz.2, hcells, hst]
theorem load52_ev (hgd : o.guard = none) {N : Tmp} (_hd : o.dst = some N) (room : Int) (v : Value) {p : Operand} (ho : o.op = .load 52 p) {ad : Addr} (hp : a.eval p = .pointer (some ad)) (hc : ∀ j u, (bL room v)[j]? = some u → W.cell? (ad.add j) = some u)
    (h : wpList Try.prog ops Q rest (a.put o.dst (.agg (bA room v))) W) : wpList Try.prog ops Q (o :: rest) a W :=
  Kd.event_run hgd (load52_run a.eval ho hp hc) h
theorem store52_ev (hgd : o.guard = none) (hN : o.dst = none) (room : Int) (v : Value) {p q : Operand} (ho : o.op = .store 52 p q) {g : Nat} (hp : a.eval p = .pointer (some ⟨g, 0, none⟩)) (hq : a.eval q = .agg (bA room v)) (hv : v.oneCell' = true) {cs : Array Value} (hg : W.heap[g]? = some (.cells cs 52 (0, 0))) (hs : cs.size = 2)
    (h : ∀ w1, w1.heap[g]? = some (.cells (bA room v) 52 (0, 0)) → W.grownBy w1 (some g) → wpList Try.prog ops Q rest a w1) : wpList Try.prog ops Q (o :: rest) a W := by
  refine wpList_plain hgd fun K hK => ?_
  unfold Oper.wp
  rw [store52_run a.eval ho hp hq hv hg hs]
  show K (a.put o.dst undef) _
  rw [hN]
  exact hK _ _ (h _ (setRow_heap W g cs _ 52 (0, 0) hg) ⟨rfl, rfl, rfl, by simp [World.setRow], fun k hk hne => setRow_other W g k _ (fun e => hne (by rw [e]))⟩)
theorem blk52 {w : World} {g : Nat} (h : w.heap[g]? = some (.cells (bA room v) 52 (0, 0))) : ∀ j u, (bL room v)[j]? = some u → w.cell? ((⟨g, 0, none⟩ : Addr).add j) = some u := fun j u hj => by
  rw [add_at, Nat.zero_add, blk_cell h, show (bA room v)[j]? = ((bL room v).toArray)[j]? from rfl, List.getElem?_toArray]
  exact hj
end
end Go.Proofs.Ytnopjjilpgekfaa.PCa
namespace Go.Proofs.Ytnopjjilpgekfaa.PCa
open Go.RowKit Go.Proofs.YtnopjjilpgekfaaW.PrintWords Go.Proofs.YtnopjjilpgekfaaW.PrintLast Go.Proofs.YtnopjjilpgekfaaW.PrintMore
attribute [local go_sem] max2_int min2_int max_two min_two max_three min_three max_four min_four
set_option linter.unusedVariables false
set_option linter.unusedSimpArgs false
def rta.T2 : Bool × List (List Nat × List Nat) := (true, [([], []), ([], []), ([1], [1]), ([0, 2, 0], [0]), ([3, 0, 3], []), ([2, 4, 0, 1, 2, 3, 4], [2])])
def rta.B2 : List Nat := [0, 0, 2, 7, 15, 31]
theorem rta.tab2 : rtab .any (opsOf Try.f23 2) = rta.T2 := by kernel_rfl
theorem rta.bits2 : waitsOk rta.T2.2 rta.B2 = true := by kernel_rfl
def rta.T4 : Bool × List (List Nat × List Nat) := (true, [([], []), ([], []), ([1], [1]), ([0, 2, 0], [0]), ([3, 0, 3], []), ([2, 4, 0, 1, 2, 3, 4], [2])])
def rta.B4 : List Nat := [0, 0, 2, 7, 15, 31]
theorem rta.tab4 : rtab .any (opsOf Try.f23 4) = rta.T4 := by kernel_rfl
theorem rta.bits4 : waitsOk rta.T4.2 rta.B4 = true := by kernel_rfl
/-- What the document's Take tells of an empty buffer with no room. -/
def RN (w : World) (r : List S32 × Int) (e : Ending) (w' : World) : Prop := ∃ (v1 : Value) (A : Option Addr) (c : Nat), e = .returned (.tuple #[.agg #[.int .i64 0, v1], .slice A r.1.length c, .int .i64 r.2]) ∧ v1.oneCell' = true ∧ r.1.length ≤ c ∧ Kd.C k32 w' A r.1.length r.1 ∧ Below w.heap.size w w'
theorem RN.err {w w' : World} {c : Int} (hb : Below w.heap.size w w') : RN w ([], c) (.returned (.tuple #[.agg #[.int .i64 0, .slice none 0 0], .slice none 0 0, .int .i64 c])) w' := ⟨_, none, 0, rfl, rfl, Nat.le_refl _, Kd.C_nil _ _, hb⟩
theorem drew_below {w w1 : World} {nd : Nat} (h : w1 = w.drewN nd) : Below w.heap.size w w1 := by rw [h]; exact pw_below_drewN (Below.refl _ _) nd
theorem row_below {w w1 : World} {g : Nat} {cs : Array Value} {t : Nat} (h : Below w.heap.size w w1) (hg : w.heap.size ≤ g) (hx : w1.heap[g]? = some (.cells cs t (0, 0))) (ds : Array Value) : Below w.heap.size w (w1.setRow g ds) :=
 h.grown (row := some g) (w' := w1.setRow g ds) ⟨rfl, rfl, rfl, by simp [World.setRow], fun k hk hne => setRow_other w1 g k _ (fun e => hne (by rw [e]))⟩ h.size (fun k hk => by injection hk with hk; rw [← hk]; exact hg)
theorem C_one {w : World} {x : S32} {A3 : Option Addr} {c3 g : Nat} (h : w.heap[g]? = some (.cells (chA x (.slice A3 x.f2.length c3)) 32 (0, 0))) (h3 : x.f2.length ≤ c3) (hc : Kd.C (Kd.int .i64) w A3 x.f2.length x.f2) : Kd.C k32 w (some ⟨g, 0, none⟩) 1 [x] := by
 refine ⟨rfl, by decide, fun _ => ⟨_, rfl, fun j p hj => ?_⟩⟩
 cases j with
 | succ j => exact absurd hj (by simp)
 | zero =>
  injection hj with hj
  subst hj
  exact ⟨_, rfl, k32_mk w x h3 hc, fun i u hi => by rw [Nat.zero_mul, Nat.zero_add]; exact blk_cells h i u hi⟩
theorem lit_event {o : Oper} {ops : Array Oper} {rest : List Oper} {a : Act} {Q : Exit → Act → World → Prop} {W : World} (hgd : o.guard = none) {N : Tmp} (_hd : o.dst = some N) {cs : Array Value}
  (hrun : (execOp a.eval o).run Try.prog W = .ok (.value (.slice (some ⟨W.heap.size, 0, none⟩) 1 1)) (W.alloc (.cells cs 32 (0, 0))))
  (h : ∀ g, g = W.heap.size → ∀ w1, w1.heap[g]? = some (.cells cs 32 (0, 0)) → Below W.heap.size W w1 → wpList Try.prog ops Q rest (a.put o.dst (.slice (some ⟨g, 0, none⟩) 1 1)) w1) : wpList Try.prog ops Q (o :: rest) a W :=
 Kd.event_run hgd hrun (h _ rfl _ (blk_new W _) (below_alloc (Below.refl _ _) _))
set_option maxHeartbeats 8000000 in
set_option maxRecDepth 100000 in
theorem rtake_chk {w : World} (A0 : Option Addr) (c0 : Nat) (known : List Int) (hk : Kd.C (Kd.int .i64) w A0 known.length known) (hkc : known.length ≤ c0) (x : S32) (A3 : Option Addr) (c3 : Nat) (hx : Kd.C (Kd.int .i64) w A3 x.f2.length x.f2) (hx3 : x.f2.length ≤ c3) (hs : x.f7.size < 4611686018427387904) (hc : chkC known ≠ 0) :
  Calls Try.prog 23 #[.agg #[.int .i64 0, .slice none 0 0], .slice A0 known.length c0, (.agg #[.int .i64 x.f0.f0, .int .i64 x.f0.f1, .int .i64 x.f1, (.slice A3 x.f2.length c3), .int .i64 x.f3, .int .i64 x.f4.f0, .int .i64 x.f4.f1, .int .i64 x.f5.f0, .int .i64 x.f5.f1, .int .i64 x.f6.f0, .int .i64 x.f6.f1, .string x.f7, .string x.f8])] w (RN w ([], chkC known)) := by
 have hu52 := Try.underlying52
 have HK := Aside0.mk hk
 have HKC := Aside0.mk hkc
 have HC3 := Aside0.mk hx
 have HL3 := Aside0.mk hx3
 have HCK := Aside0.mk (ref_Check_is known 66 (by decide))
 have HB := Aside0.mk (Below.refl w.heap.size w)
 clear hk hkc hx hx3 hs
 generalize chkC known = cc at *
 have e1 : (cc != 0) = true := by rw [bne_iff_ne]; exact hc
 clear hc
 go_enter Try.func23, Try.ntmps23
 go_wp2_with (first | ((with_reducible refine gate_dst (N := 3) rfl ?_); refine box_event ?hg (N := 3) ?hd (cs := #[.int .i64 0, .slice none 0 0]) (t := 52) ?hr ?_; (case hd => rfl); (case hg => rfl); (case hr => first | (go_simp; done) | (go_simp; rfl)); intro ga hr_ w_ga hbox hb; have HGga := Aside0.mk (Nat.le_trans HB.out.size (Nat.le_of_eq hr_.symm));  have HXga := Aside0.mk hbox; have n0_ := Aside0.mk (HB.out.trans (hb.mono HB.out.size)); clear HB; have HB := n0_; clear n0_ hbox hb hr_) | ((with_reducible refine gate_dst (N := 5) rfl ?_); refine box_event ?hg (N := 5) ?hd (cs := #[.int .i64 x.f0.f0, .int .i64 x.f0.f1, .int .i64 x.f1, (.slice A3 x.f2.length c3), .int .i64 x.f3, .int .i64 x.f4.f0, .int .i64 x.f4.f1, .int .i64 x.f5.f0, .int .i64 x.f5.f1, .int .i64 x.f6.f0, .int .i64 x.f6.f1, .string x.f7, .string x.f8]) (t := 32) ?hr ?_; (case hd => rfl); (case hg => rfl); (case hr => first | (go_simp; done) | (go_simp; rfl)); intro gb hr_ w_gb hbox hb; have HGgb := Aside0.mk (Nat.le_trans HB.out.size (Nat.le_of_eq hr_.symm)); replace HXga := Aside0.mk (blk_below HXga.out hb);  have HXgb := Aside0.mk hbox; have n0_ := Aside0.mk (HB.out.trans (hb.mono HB.out.size)); clear HB; have HB := n0_; clear n0_ hbox hb hr_) | ((with_reducible refine gate_dst (N := 6) rfl ?_); refine box_event ?hg (N := 6) ?hd (cs := #[.int .i64 0, .slice none 0 0]) (t := 52) ?hr ?_; (case hd => rfl); (case hg => rfl); (case hr => first | (go_simp; done) | (go_simp; rfl)); intro gc hr_ w_gc hbox hb; have HGgc := Aside0.mk (Nat.le_trans HB.out.size (Nat.le_of_eq hr_.symm)); have HNga := Aside0.mk (Nat.lt_of_lt_of_le (blk_lt HXga.out) (Nat.le_of_eq hr_.symm)); have HNgb := Aside0.mk (Nat.lt_of_lt_of_le (blk_lt HXgb.out) (Nat.le_of_eq hr_.symm)); replace HXga := Aside0.mk (blk_below HXga.out hb); replace HXgb := Aside0.mk (blk_below HXgb.out hb);  have HXgc := Aside0.mk hbox; have n0_ := Aside0.mk (HB.out.trans (hb.mono HB.out.size)); clear HB; have HB := n0_; clear n0_ hbox hb hr_) | (go_at_call 46; refine (topiaryref02_Check.calls 66 A0 c0 known _ _ (Kd.C_below HK.out HB.out) HKC.out HCK.out).mono ?_; rintro e w1 ⟨rfl, ⟨nd, hnd⟩⟩; have hb_ := drew_below hnd; clear hnd; have n0_ := Aside0.mk (HB.out.trans (hb_.mono HB.out.size)); clear HB; have HB := n0_; have HXa := Aside0.mk (blk_below HXga.out hb_); clear HXga; have HXga := HXa; clear HXa; have HXa := Aside0.mk (blk_below HXgb.out hb_); clear HXgb; have HXgb := HXa; clear HXa; have HXa := Aside0.mk (blk_below HXgc.out hb_); clear HXgc; have HXgc := HXa; clear HXa; clear n0_ hb_))
 refine start_ (n := 6) (S := (fun w' => w'.heap[ga]? = some (.cells (bA 0 (.slice none 0 0)) 52 (0, 0)) ∧ w'.heap[gb]? = some (.cells (chA x (.slice A3 x.f2.length c3)) 32 (0, 0)) ∧ w'.heap[gc]? = some (.cells (bA 0 (.slice none 0 0)) 52 (0, 0)))) (ds := []) #[false, false, false, false, false, false] (by kernel_rfl) rfl rfl (⟨HXga.out, HXgb.out, HXgc.out⟩) (fun hHeld => ?_)
 refine with_tabW rta.tab2 rta.bits2 (fun HT_ HW_ => ?_)
 refine pureS (i := 1) (N := (some 17)) #[false, true, false, false, false, false] HT_ ?_
 refine take_ (i := 0) (N := (some 16)) (v := ?_) (a' := ?_) #[true, true, false, false, false, false] rfl rfl (take_ofW HT_.out HW_.out (by kernel_rfl)) (fun _ _ _ h => h) (Or.inl ⟨by rfl, ?_⟩) hHeld ?_ ?_
 rotate_left
 ·rintro w' ⟨s0, s1, s2⟩
  refine Eq.trans (load52_run (room := 0) (v := (.slice none 0 0)) _ (p := .tmp 3) ?ho_ ?hp_ (blk52 s0)) ?hr_
  case ho_ => rfl
  case hp_ => rfl
  case hr_ => rfl
 rotate_left
 ·simp only [Act.put, List.setIfInBounds_toArray, List.set_cons_zero, List.set_cons_succ, i64_w, i32_w]
  rfl
 refine one_ (i := 2) (N := (some 18)) #[true, true, true, false, false, false] rfl rfl (one_of HT_.out (by kernel_rfl)) (by decide) (fun K hK => ?_)
 refine goes_ Try.func46 (by kernel_rfl) rfl #[.slice A0 known.length c0] (by rfl) rfl rfl (by (try simp only [List.map_toArray, List.map_cons, List.map_nil]); first | done | rfl) ?_
 replace HB := Aside0.mk (below_drew HB.out)
 refine (topiaryref02_Check.calls 66 A0 c0 known _ _ (Kd.C_below HK.out HB.out) HKC.out HCK.out).mono ?_
 rintro e w1 ⟨rfl, ⟨nd, hnd⟩⟩
 refine ⟨_, rfl, ?_⟩
 have hb_ := drew_below hnd; clear hnd
 have hS : (fun w' => w'.heap[ga]? = some (.cells (bA 0 (.slice none 0 0)) 52 (0, 0)) ∧ w'.heap[gb]? = some (.cells (chA x (.slice A3 x.f2.length c3)) 32 (0, 0)) ∧ w'.heap[gc]? = some (.cells (bA 0 (.slice none 0 0)) 52 (0, 0))) w1 := ⟨blk_below hHeld.1 hb_, blk_below hHeld.2.1 hb_, blk_below hHeld.2.2 hb_⟩
 replace HB := Aside0.mk (HB.out.trans (hb_.mono HB.out.size))
 clear hb_ hHeld
 refine hK.out _ _ (hS) (fun hHeld => ?_)
 clear hK K
 refine norm_ (a' := ?_) ?_ ?_
 rotate_left
 ·show Act.put _ (some 18) _ = _
  simp only [Act.put, List.setIfInBounds_toArray, List.set_cons_zero, List.set_cons_succ, i64_w, i32_w]
  rfl
 refine one_ (i := 3) (N := none) #[true, true, true, true, false, false] rfl rfl (one_of HT_.out (by kernel_rfl)) (by decide) (fun K hK => ?_)
 have h6_ := hHeld
 obtain ⟨s0, s1, s2⟩ := h6_
 refine skip_ (w1 := _) (by rfl) rfl (store52_run (room := 0) (v := (.slice none 0 0)) _ rfl rfl rfl rfl s2 rfl) ?_
 have hS : (fun w' => w'.heap[ga]? = some (.cells (bA 0 (.slice none 0 0)) 52 (0, 0)) ∧ w'.heap[gb]? = some (.cells (chA x (.slice A3 x.f2.length c3)) 32 (0, 0)) ∧ w'.heap[gc]? = some (.cells (bA 0 (.slice none 0 0)) 52 (0, 0))) (World.setRow _ gc (bA 0 (.slice none 0 0))) := ⟨(setRow_other _ gc ga _ (Nat.ne_of_lt HNga.out)).trans s0, (setRow_other _ gc gb _ (Nat.ne_of_lt HNgb.out)).trans s1, setRow_heap _ gc _ _ 52 (0, 0) s2⟩
 have HBS := Aside0.mk (row_below HB.out HGgc.out s2 (bA 0 (.slice none 0 0)))
 refine hK.out _ _ (hS) (fun hHeld => ?_)
 clear hK K
 refine pureS (i := 4) (N := (some 7)) #[true, true, true, true, true, false] HT_ ?_
 refine pureS (i := 5) (N := (some 8)) #[true, true, true, true, true, true] HT_ ?_
 refine done_ (done_of HT_.out (by kernel_rfl)) ?_
 try go_wp2
 refine bodyPost_ret (results_ctt rfl _ _ gc 52 (bA 0 (.slice none 0 0)) (0, 0) _ rfl hHeld.2.2 hu52 rfl (by kernel_rfl)) rfl ?_
 exact RN.err HBS.out
set_option maxHeartbeats 8000000 in
set_option maxRecDepth 100000 in
theorem rtake_bad {w : World} (A0 : Option Addr) (c0 : Nat) (known : List Int) (hk : Kd.C (Kd.int .i64) w A0 known.length known) (hkc : known.length ≤ c0) (x : S32) (A3 : Option Addr) (c3 : Nat) (hx : Kd.C (Kd.int .i64) w A3 x.f2.length x.f2) (hx3 : x.f2.length ≤ c3) (hs : x.f7.size < 4611686018427387904) (hc : chkC known = 0) (hc2 : checkX x ≠ 0) :
  Calls Try.prog 23 #[.agg #[.int .i64 0, .slice none 0 0], .slice A0 known.length c0, (.agg #[.int .i64 x.f0.f0, .int .i64 x.f0.f1, .int .i64 x.f1, (.slice A3 x.f2.length c3), .int .i64 x.f3, .int .i64 x.f4.f0, .int .i64 x.f4.f1, .int .i64 x.f5.f0, .int .i64 x.f5.f1, .int .i64 x.f6.f0, .int .i64 x.f6.f1, .string x.f7, .string x.f8])] w (RN w ([], checkX x)) := by
 have hu52 := Try.underlying52
 have HK := Aside0.mk hk
 have HKC := Aside0.mk hkc
 have HC3 := Aside0.mk hx
 have HL3 := Aside0.mk hx3
 have HCK := Aside0.mk (ref_Check_is known 66 (by decide))
 have HB := Aside0.mk (Below.refl w.heap.size w)
 have HCE := Aside0.mk (ref_Check05_is (k := x.f7.size + 400) (a0 := x.f0.f0) (a1 := x.f0.f1) (a2 := x.f1) (d := x.f2) (a4 := x.f3) (a5 := x.f4.f0) (a6 := x.f4.f1) (a7 := x.f5.f0) (a8 := x.f5.f1) (a9 := x.f6.f0) (a10 := x.f6.f1) (s := x.f7) (t := x.f8) hs (by omega) (by omega))
 rw [show checkC x.f0.f0 x.f0.f1 x.f1 x.f2 x.f3 x.f4.f0 x.f4.f1 x.f5.f0 x.f5.f1 x.f6.f0 x.f6.f1 x.f7 x.f8 = checkX x from rfl] at HCE
 rw [hc] at HCK
 clear hk hkc hx hx3 hs
 clear hc
 generalize checkX x = cc at *
 have e1 : (cc != 0) = true := by rw [bne_iff_ne]; exact hc2
 clear hc2
 go_enter Try.func23, Try.ntmps23
 go_wp2_with (first | ((with_reducible refine gate_dst (N := 3) rfl ?_); refine box_event ?hg (N := 3) ?hd (cs := #[.int .i64 0, .slice none 0 0]) (t := 52) ?hr ?_; (case hd => rfl); (case hg => rfl); (case hr => first | (go_simp; done) | (go_simp; rfl)); intro ga hr_ w_ga hbox hb; have HGga := Aside0.mk (Nat.le_trans HB.out.size (Nat.le_of_eq hr_.symm));  have HXga := Aside0.mk hbox; have n0_ := Aside0.mk (HB.out.trans (hb.mono HB.out.size)); clear HB; have HB := n0_; clear n0_ hbox hb hr_) | ((with_reducible refine gate_dst (N := 5) rfl ?_); refine box_event ?hg (N := 5) ?hd (cs := #[.int .i64 x.f0.f0, .int .i64 x.f0.f1, .int .i64 x.f1, (.slice A3 x.f2.length c3), .int .i64 x.f3, .int .i64 x.f4.f0, .int .i64 x.f4.f1, .int .i64 x.f5.f0, .int .i64 x.f5.f1, .int .i64 x.f6.f0, .int .i64 x.f6.f1, .string x.f7, .string x.f8]) (t := 32) ?hr ?_; (case hd => rfl); (case hg => rfl); (case hr => first | (go_simp; done) | (go_simp; rfl)); intro gb hr_ w_gb hbox hb; have HGgb := Aside0.mk (Nat.le_trans HB.out.size (Nat.le_of_eq hr_.symm)); replace HXga := Aside0.mk (blk_below HXga.out hb);  have HXgb := Aside0.mk hbox; have n0_ := Aside0.mk (HB.out.trans (hb.mono HB.out.size)); clear HB; have HB := n0_; clear n0_ hbox hb hr_) | ((with_reducible refine gate_dst (N := 6) rfl ?_); refine box_event ?hg (N := 6) ?hd (cs := #[.int .i64 0, .slice none 0 0]) (t := 52) ?hr ?_; (case hd => rfl); (case hg => rfl); (case hr => first | (go_simp; done) | (go_simp; rfl)); intro gc hr_ w_gc hbox hb; have HGgc := Aside0.mk (Nat.le_trans HB.out.size (Nat.le_of_eq hr_.symm)); have HNga := Aside0.mk (Nat.lt_of_lt_of_le (blk_lt HXga.out) (Nat.le_of_eq hr_.symm)); have HNgb := Aside0.mk (Nat.lt_of_lt_of_le (blk_lt HXgb.out) (Nat.le_of_eq hr_.symm)); replace HXga := Aside0.mk (blk_below HXga.out hb); replace HXgb := Aside0.mk (blk_below HXgb.out hb);  have HXgc := Aside0.mk hbox; have n0_ := Aside0.mk (HB.out.trans (hb.mono HB.out.size)); clear HB; have HB := n0_; clear n0_ hbox hb hr_) | (go_at_call 46; refine (topiaryref02_Check.calls 66 A0 c0 known _ _ (Kd.C_below HK.out HB.out) HKC.out HCK.out).mono ?_; rintro e w1 ⟨rfl, ⟨nd, hnd⟩⟩; have hb_ := drew_below hnd; clear hnd; have n0_ := Aside0.mk (HB.out.trans (hb_.mono HB.out.size)); clear HB; have HB := n0_; have HXa := Aside0.mk (blk_below HXga.out hb_); clear HXga; have HXga := HXa; clear HXa; have HXa := Aside0.mk (blk_below HXgb.out hb_); clear HXgb; have HXgb := HXa; clear HXa; have HXa := Aside0.mk (blk_below HXgc.out hb_); clear HXgc; have HXgc := HXa; clear HXa; clear n0_ hb_) | ((with_reducible refine gate_dst (N := 19) rfl ?_); refine load32_ev rfl (N := 19) rfl x (.slice A3 x.f2.length c3) (p := .tmp 5) rfl (ad := ⟨gb, 0, none⟩) rfl (blk_cells HXgb.out) ?_) | (go_at_call 47; refine (topiaryref05_Check.calls (x.f7.size + 400) x.f0.f0 x.f0.f1 x.f1 A3 c3 x.f2 x.f3 x.f4.f0 x.f4.f1 x.f5.f0 x.f5.f1 x.f6.f0 x.f6.f1 x.f7 x.f8 _ _ (Kd.C_below HC3.out HB.out) HL3.out HCE.out).mono ?_; rintro e w1 ⟨rfl, hb_⟩; have n0_ := Aside0.mk (HB.out.trans (hb_.mono HB.out.size)); clear HB; have HB := n0_; have HXa := Aside0.mk (blk_below HXga.out hb_); clear HXga; have HXga := HXa; clear HXa; have HXa := Aside0.mk (blk_below HXgb.out hb_); clear HXgb; have HXgb := HXa; clear HXa; have HXa := Aside0.mk (blk_below HXgc.out hb_); clear HXgc; have HXgc := HXa; clear HXa; clear n0_ hb_))
 refine start_ (n := 6) (S := (fun w' => w'.heap[ga]? = some (.cells (bA 0 (.slice none 0 0)) 52 (0, 0)) ∧ w'.heap[gb]? = some (.cells (chA x (.slice A3 x.f2.length c3)) 32 (0, 0)) ∧ w'.heap[gc]? = some (.cells (bA 0 (.slice none 0 0)) 52 (0, 0)))) (ds := []) #[false, false, false, false, false, false] (by kernel_rfl) rfl rfl (⟨HXga.out, HXgb.out, HXgc.out⟩) (fun hHeld => ?_)
 refine with_tabW rta.tab4 rta.bits4 (fun HT_ HW_ => ?_)
 refine take_ (i := 0) (N := (some 22)) (v := ?_) (a' := ?_) #[true, false, false, false, false, false] rfl rfl (take_ofW HT_.out HW_.out (by kernel_rfl)) (fun _ _ _ h => h) (Or.inl ⟨by rfl, ?_⟩) hHeld ?_ ?_
 rotate_left
 ·rintro w' ⟨s0, s1, s2⟩
  refine Eq.trans (load52_run (room := 0) (v := (.slice none 0 0)) _ (p := .tmp 3) ?ho_ ?hp_ (blk52 s0)) ?hr_
  case ho_ => rfl
  case hp_ => rfl
  case hr_ => rfl
 rotate_left
 ·simp only [Act.put, List.setIfInBounds_toArray, List.set_cons_zero, List.set_cons_succ, i64_w, i32_w]
  rfl
 refine take_ (i := 1) (N := (some 23)) (v := ?_) (a' := ?_) #[true, true, false, false, false, false] rfl rfl (take_ofW HT_.out HW_.out (by kernel_rfl)) (fun _ _ _ h => h) (Or.inl ⟨by rfl, ?_⟩) hHeld ?_ ?_
 rotate_left
 ·rintro w' ⟨s0, s1, s2⟩
  refine Eq.trans (load32_run (x := x) (v := (.slice A3 x.f2.length c3)) _ (p := .tmp 5) ?ho_ ?hp_ (blk_cells s1)) ?hr_
  case ho_ => rfl
  case hp_ => rfl
  case hr_ => rfl
 rotate_left
 ·simp only [Act.put, List.setIfInBounds_toArray, List.set_cons_zero, List.set_cons_succ, i64_w, i32_w]
  rfl
 refine one_ (i := 2) (N := (some 24)) #[true, true, true, false, false, false] rfl rfl (one_of HT_.out (by kernel_rfl)) (by decide) (fun K hK => ?_)
 refine goes_ Try.func47 (by kernel_rfl) rfl #[(.agg #[.int .i64 x.f0.f0, .int .i64 x.f0.f1, .int .i64 x.f1, (.slice A3 x.f2.length c3), .int .i64 x.f3, .int .i64 x.f4.f0, .int .i64 x.f4.f1, .int .i64 x.f5.f0, .int .i64 x.f5.f1, .int .i64 x.f6.f0, .int .i64 x.f6.f1, .string x.f7, .string x.f8])] (by rfl) rfl rfl (by (try simp only [List.map_toArray, List.map_cons, List.map_nil]); first | done | rfl) ?_
 replace HB := Aside0.mk (below_drew HB.out)
 refine (topiaryref05_Check.calls (x.f7.size + 400) x.f0.f0 x.f0.f1 x.f1 A3 c3 x.f2 x.f3 x.f4.f0 x.f4.f1 x.f5.f0 x.f5.f1 x.f6.f0 x.f6.f1 x.f7 x.f8 _ _ (Kd.C_below HC3.out HB.out) HL3.out HCE.out).mono ?_
 rintro e w1 ⟨rfl, hb_⟩
 refine ⟨_, rfl, ?_⟩
 have hS : (fun w' => w'.heap[ga]? = some (.cells (bA 0 (.slice none 0 0)) 52 (0, 0)) ∧ w'.heap[gb]? = some (.cells (chA x (.slice A3 x.f2.length c3)) 32 (0, 0)) ∧ w'.heap[gc]? = some (.cells (bA 0 (.slice none 0 0)) 52 (0, 0))) w1 := ⟨blk_below hHeld.1 hb_, blk_below hHeld.2.1 hb_, blk_below hHeld.2.2 hb_⟩
 replace HB := Aside0.mk (HB.out.trans (hb_.mono HB.out.size))
 clear hb_ hHeld
 refine hK.out _ _ (hS) (fun hHeld => ?_)
 clear hK K
 refine norm_ (a' := ?_) ?_ ?_
 rotate_left
 ·show Act.put _ (some 24) _ = _
  simp only [Act.put, List.setIfInBounds_toArray, List.set_cons_zero, List.set_cons_succ, i64_w, i32_w]
  rfl
 refine one_ (i := 3) (N := none) #[true, true, true, true, false, false] rfl rfl (one_of HT_.out (by kernel_rfl)) (by decide) (fun K hK => ?_)
 have h6_ := hHeld
 obtain ⟨s0, s1, s2⟩ := h6_
 refine skip_ (w1 := _) (by rfl) rfl (store52_run (room := 0) (v := (.slice none 0 0)) _ rfl rfl rfl rfl s2 rfl) ?_
 have hS : (fun w' => w'.heap[ga]? = some (.cells (bA 0 (.slice none 0 0)) 52 (0, 0)) ∧ w'.heap[gb]? = some (.cells (chA x (.slice A3 x.f2.length c3)) 32 (0, 0)) ∧ w'.heap[gc]? = some (.cells (bA 0 (.slice none 0 0)) 52 (0, 0))) (World.setRow _ gc (bA 0 (.slice none 0 0))) := ⟨(setRow_other _ gc ga _ (Nat.ne_of_lt HNga.out)).trans s0, (setRow_other _ gc gb _ (Nat.ne_of_lt HNgb.out)).trans s1, setRow_heap _ gc _ _ 52 (0, 0) s2⟩
 have HBS := Aside0.mk (row_below HB.out HGgc.out s2 (bA 0 (.slice none 0 0)))
 refine hK.out _ _ (hS) (fun hHeld => ?_)
 clear hK K
 refine pureS (i := 4) (N := (some 7)) #[true, true, true, true, true, false] HT_ ?_
 refine pureS (i := 5) (N := (some 8)) #[true, true, true, true, true, true] HT_ ?_
 refine done_ (done_of HT_.out (by kernel_rfl)) ?_
 try go_wp2
 refine bodyPost_ret (results_ctt rfl _ _ gc 52 (bA 0 (.slice none 0 0)) (0, 0) _ rfl hHeld.2.2 hu52 rfl (by kernel_rfl)) rfl ?_
 exact RN.err HBS.out
set_option maxHeartbeats 8000000 in
set_option maxRecDepth 100000 in
theorem rtake_within {w : World} (A0 : Option Addr) (c0 : Nat) (known : List Int) (hk : Kd.C (Kd.int .i64) w A0 known.length known) (hkc : known.length ≤ c0) (x : S32) (A3 : Option Addr) (c3 : Nat) (hx : Kd.C (Kd.int .i64) w A3 x.f2.length x.f2) (hx3 : x.f2.length ≤ c3) (hs : x.f7.size < 4611686018427387904) (hc : chkC known = 0) (hc2 : checkX x = 0) (hw : withinX known x = true) :
  Calls Try.prog 23 #[.agg #[.int .i64 0, .slice none 0 0], .slice A0 known.length c0, (.agg #[.int .i64 x.f0.f0, .int .i64 x.f0.f1, .int .i64 x.f1, (.slice A3 x.f2.length c3), .int .i64 x.f3, .int .i64 x.f4.f0, .int .i64 x.f4.f1, .int .i64 x.f5.f0, .int .i64 x.f5.f1, .int .i64 x.f6.f0, .int .i64 x.f6.f1, .string x.f7, .string x.f8])] w (RN w ([], 5)) := by
 have hu52 := Try.underlying52
 have HK := Aside0.mk hk
 have HKC := Aside0.mk hkc
 have HC3 := Aside0.mk hx
 have HL3 := Aside0.mk hx3
 have HCK := Aside0.mk (ref_Check_is known 66 (by decide))
 have HB := Aside0.mk (Below.refl w.heap.size w)
 have HCE := Aside0.mk (ref_Check05_is (k := x.f7.size + 400) (a0 := x.f0.f0) (a1 := x.f0.f1) (a2 := x.f1) (d := x.f2) (a4 := x.f3) (a5 := x.f4.f0) (a6 := x.f4.f1) (a7 := x.f5.f0) (a8 := x.f5.f1) (a9 := x.f6.f0) (a10 := x.f6.f1) (s := x.f7) (t := x.f8) hs (by omega) (by omega))
 rw [show checkC x.f0.f0 x.f0.f1 x.f1 x.f2 x.f3 x.f4.f0 x.f4.f1 x.f5.f0 x.f5.f1 x.f6.f0 x.f6.f1 x.f7 x.f8 = checkX x from rfl] at HCE
 rw [hc] at HCK
 rw [hc2] at HCE
 clear hk hkc hx hx3 hs
 have HWI := Aside0.mk (within_is known x)
 rw [hw] at HWI
 clear hw
 clear hc hc2
 go_enter Try.func23, Try.ntmps23
 go_wp2_with (first | ((with_reducible refine gate_dst (N := 3) rfl ?_); refine box_event ?hg (N := 3) ?hd (cs := #[.int .i64 0, .slice none 0 0]) (t := 52) ?hr ?_; (case hd => rfl); (case hg => rfl); (case hr => first | (go_simp; done) | (go_simp; rfl)); intro ga hr_ w_ga hbox hb; have HGga := Aside0.mk (Nat.le_trans HB.out.size (Nat.le_of_eq hr_.symm));  have HXga := Aside0.mk hbox; have n0_ := Aside0.mk (HB.out.trans (hb.mono HB.out.size)); clear HB; have HB := n0_; clear n0_ hbox hb hr_) | ((with_reducible refine gate_dst (N := 5) rfl ?_); refine box_event ?hg (N := 5) ?hd (cs := #[.int .i64 x.f0.f0, .int .i64 x.f0.f1, .int .i64 x.f1, (.slice A3 x.f2.length c3), .int .i64 x.f3, .int .i64 x.f4.f0, .int .i64 x.f4.f1, .int .i64 x.f5.f0, .int .i64 x.f5.f1, .int .i64 x.f6.f0, .int .i64 x.f6.f1, .string x.f7, .string x.f8]) (t := 32) ?hr ?_; (case hd => rfl); (case hg => rfl); (case hr => first | (go_simp; done) | (go_simp; rfl)); intro gb hr_ w_gb hbox hb; have HGgb := Aside0.mk (Nat.le_trans HB.out.size (Nat.le_of_eq hr_.symm)); replace HXga := Aside0.mk (blk_below HXga.out hb);  have HXgb := Aside0.mk hbox; have n0_ := Aside0.mk (HB.out.trans (hb.mono HB.out.size)); clear HB; have HB := n0_; clear n0_ hbox hb hr_) | ((with_reducible refine gate_dst (N := 6) rfl ?_); refine box_event ?hg (N := 6) ?hd (cs := #[.int .i64 0, .slice none 0 0]) (t := 52) ?hr ?_; (case hd => rfl); (case hg => rfl); (case hr => first | (go_simp; done) | (go_simp; rfl)); intro gc hr_ w_gc hbox hb; have HGgc := Aside0.mk (Nat.le_trans HB.out.size (Nat.le_of_eq hr_.symm)); have HNga := Aside0.mk (Nat.lt_of_lt_of_le (blk_lt HXga.out) (Nat.le_of_eq hr_.symm)); have HNgb := Aside0.mk (Nat.lt_of_lt_of_le (blk_lt HXgb.out) (Nat.le_of_eq hr_.symm)); replace HXga := Aside0.mk (blk_below HXga.out hb); replace HXgb := Aside0.mk (blk_below HXgb.out hb);  have HXgc := Aside0.mk hbox; have n0_ := Aside0.mk (HB.out.trans (hb.mono HB.out.size)); clear HB; have HB := n0_; clear n0_ hbox hb hr_) | (go_at_call 46; refine (topiaryref02_Check.calls 66 A0 c0 known _ _ (Kd.C_below HK.out HB.out) HKC.out HCK.out).mono ?_; rintro e w1 ⟨rfl, ⟨nd, hnd⟩⟩; have hb_ := drew_below hnd; clear hnd; have n0_ := Aside0.mk (HB.out.trans (hb_.mono HB.out.size)); clear HB; have HB := n0_; have HXa := Aside0.mk (blk_below HXga.out hb_); clear HXga; have HXga := HXa; clear HXa; have HXa := Aside0.mk (blk_below HXgb.out hb_); clear HXgb; have HXgb := HXa; clear HXa; have HXa := Aside0.mk (blk_below HXgc.out hb_); clear HXgc; have HXgc := HXa; clear HXa; clear n0_ hb_) | ((with_reducible refine gate_dst (N := 19) rfl ?_); refine load32_ev rfl (N := 19) rfl x (.slice A3 x.f2.length c3) (p := .tmp 5) rfl (ad := ⟨gb, 0, none⟩) rfl (blk_cells HXgb.out) ?_) | (go_at_call 47; refine (topiaryref05_Check.calls (x.f7.size + 400) x.f0.f0 x.f0.f1 x.f1 A3 c3 x.f2 x.f3 x.f4.f0 x.f4.f1 x.f5.f0 x.f5.f1 x.f6.f0 x.f6.f1 x.f7 x.f8 _ _ (Kd.C_below HC3.out HB.out) HL3.out HCE.out).mono ?_; rintro e w1 ⟨rfl, hb_⟩; have n0_ := Aside0.mk (HB.out.trans (hb_.mono HB.out.size)); clear HB; have HB := n0_; have HXa := Aside0.mk (blk_below HXga.out hb_); clear HXga; have HXga := HXa; clear HXa; have HXa := Aside0.mk (blk_below HXgb.out hb_); clear HXgb; have HXgb := HXa; clear HXa; have HXa := Aside0.mk (blk_below HXgc.out hb_); clear HXgc; have HXgc := HXa; clear HXa; clear n0_ hb_) | ((with_reducible refine gate_dst (N := 25) rfl ?_); refine load32_ev rfl (N := 25) rfl x (.slice A3 x.f2.length c3) (p := .tmp 5) rfl (ad := ⟨gb, 0, none⟩) rfl (blk_cells HXgb.out) ?_) | (go_at_call 50; refine (topiaryref07_Within.calls x.f0.f0 x.f0.f1 x.f1 A3 c3 x.f2 x.f3 x.f4.f0 x.f4.f1 x.f5.f0 x.f5.f1 x.f6.f0 x.f6.f1 x.f7 x.f8 A0 c0 known _ _ (Kd.C_below HC3.out HB.out) HL3.out (Kd.C_below HK.out HB.out) HKC.out HWI.out).mono ?_; rintro e w1 ⟨rfl, hb_⟩; have n0_ := Aside0.mk (HB.out.trans (hb_.mono HB.out.size)); clear HB; have HB := n0_; have HXa := Aside0.mk (blk_below HXga.out hb_); clear HXga; have HXga := HXa; clear HXa; have HXa := Aside0.mk (blk_below HXgb.out hb_); clear HXgb; have HXgb := HXa; clear HXa; have HXa := Aside0.mk (blk_below HXgc.out hb_); clear HXgc; have HXgc := HXa; clear HXa; clear n0_ hb_; have q3 := (blk_cell HXga.out 1).trans rfl; have q1 : w1.cell? ⟨ga, 1, none⟩ = some (.slice none 0 0) := q3; have q4 : w1.cell? ⟨gb, 1, none⟩ = some (.int .i64 x.f0.f1) := (blk_cell HXgb.out 1).trans rfl; have q5 : w1.cell? ⟨gb, 2, none⟩ = some (.int .i64 x.f1) := (blk_cell HXgb.out 2).trans rfl; clear q3) | ((with_reducible refine gate_dst (N := 39) rfl ?_); refine load52_ev rfl (N := 39) rfl 0 (.slice none 0 0) (p := .tmp 3) rfl (ad := ⟨ga, 0, none⟩) rfl (blk52 HXga.out) ?_) | ((with_reducible refine gate_store (t := 52) (p := 6) (v := .tmp 39) rfl ?_); refine store52_ev rfl rfl 0 (.slice none 0 0) (p := .tmp 6) (q := .tmp 39) rfl (g := gc) rfl rfl rfl HXgc.out rfl ?_; intro ws hb_ hg_; have HXs := Aside0.mk hb_; have HBs := Aside0.mk (HB.out.grown hg_ HB.out.size (fun k hk => by injection hk with hk; rw [← hk]; exact HGgc.out)); have HGs := Aside0.mk hg_; clear hb_ hg_))
 refine bodyPost_ret (results_ctt rfl _ _ gc 52 (bA 0 (.slice none 0 0)) (0, 0) _ rfl HXs.out hu52 rfl (by kernel_rfl)) rfl ?_
 exact RN.err HBs.out
set_option maxHeartbeats 8000000 in
set_option maxRecDepth 100000 in
theorem rtake_full {w : World} (A0 : Option Addr) (c0 : Nat) (known : List Int) (hk : Kd.C (Kd.int .i64) w A0 known.length known) (hkc : known.length ≤ c0) (x : S32) (A3 : Option Addr) (c3 : Nat) (hx : Kd.C (Kd.int .i64) w A3 x.f2.length x.f2) (hx3 : x.f2.length ≤ c3) (hs : x.f7.size < 4611686018427387904) (hc : chkC known = 0) (hc2 : checkX x = 0) (hw : withinX known x = false) (hr : ripeC known x = false) :
  Calls Try.prog 23 #[.agg #[.int .i64 0, .slice none 0 0], .slice A0 known.length c0, (.agg #[.int .i64 x.f0.f0, .int .i64 x.f0.f1, .int .i64 x.f1, (.slice A3 x.f2.length c3), .int .i64 x.f3, .int .i64 x.f4.f0, .int .i64 x.f4.f1, .int .i64 x.f5.f0, .int .i64 x.f5.f1, .int .i64 x.f6.f0, .int .i64 x.f6.f1, .string x.f7, .string x.f8])] w (RN w ([], 6)) := by
 have hu52 := Try.underlying52
 have HK := Aside0.mk hk
 have HKC := Aside0.mk hkc
 have HC3 := Aside0.mk hx
 have HL3 := Aside0.mk hx3
 have HCK := Aside0.mk (ref_Check_is known 66 (by decide))
 have HB := Aside0.mk (Below.refl w.heap.size w)
 have HCE := Aside0.mk (ref_Check05_is (k := x.f7.size + 400) (a0 := x.f0.f0) (a1 := x.f0.f1) (a2 := x.f1) (d := x.f2) (a4 := x.f3) (a5 := x.f4.f0) (a6 := x.f4.f1) (a7 := x.f5.f0) (a8 := x.f5.f1) (a9 := x.f6.f0) (a10 := x.f6.f1) (s := x.f7) (t := x.f8) hs (by omega) (by omega))
 rw [show checkC x.f0.f0 x.f0.f1 x.f1 x.f2 x.f3 x.f4.f0 x.f4.f1 x.f5.f0 x.f5.f1 x.f6.f0 x.f6.f1 x.f7 x.f8 = checkX x from rfl] at HCE
 rw [hc] at HCK
 rw [hc2] at HCE
 clear hk hkc hx hx3 hs
 have HWI := Aside0.mk (within_is known x)
 rw [hw] at HWI
 clear hw
 have HRI := Aside0.mk (ripe_is (x := x) (known := known) (check_ok hc2).2.2.2.2.2 (by have := (check_ok hc2).1; omega) (by have h1_ := (check_ok hc2).2.1; have h2_ := (check_ok hc2).2.2.1; omega) 71 (by decide))
 rw [hr] at HRI
 clear hc hc2 hr
 go_enter Try.func23, Try.ntmps23
 go_wp2_with (first | ((with_reducible refine gate_dst (N := 3) rfl ?_); refine box_event ?hg (N := 3) ?hd (cs := #[.int .i64 0, .slice none 0 0]) (t := 52) ?hr ?_; (case hd => rfl); (case hg => rfl); (case hr => first | (go_simp; done) | (go_simp; rfl)); intro ga hr_ w_ga hbox hb; have HGga := Aside0.mk (Nat.le_trans HB.out.size (Nat.le_of_eq hr_.symm));  have HXga := Aside0.mk hbox; have n0_ := Aside0.mk (HB.out.trans (hb.mono HB.out.size)); clear HB; have HB := n0_; clear n0_ hbox hb hr_) | ((with_reducible refine gate_dst (N := 5) rfl ?_); refine box_event ?hg (N := 5) ?hd (cs := #[.int .i64 x.f0.f0, .int .i64 x.f0.f1, .int .i64 x.f1, (.slice A3 x.f2.length c3), .int .i64 x.f3, .int .i64 x.f4.f0, .int .i64 x.f4.f1, .int .i64 x.f5.f0, .int .i64 x.f5.f1, .int .i64 x.f6.f0, .int .i64 x.f6.f1, .string x.f7, .string x.f8]) (t := 32) ?hr ?_; (case hd => rfl); (case hg => rfl); (case hr => first | (go_simp; done) | (go_simp; rfl)); intro gb hr_ w_gb hbox hb; have HGgb := Aside0.mk (Nat.le_trans HB.out.size (Nat.le_of_eq hr_.symm)); replace HXga := Aside0.mk (blk_below HXga.out hb);  have HXgb := Aside0.mk hbox; have n0_ := Aside0.mk (HB.out.trans (hb.mono HB.out.size)); clear HB; have HB := n0_; clear n0_ hbox hb hr_) | ((with_reducible refine gate_dst (N := 6) rfl ?_); refine box_event ?hg (N := 6) ?hd (cs := #[.int .i64 0, .slice none 0 0]) (t := 52) ?hr ?_; (case hd => rfl); (case hg => rfl); (case hr => first | (go_simp; done) | (go_simp; rfl)); intro gc hr_ w_gc hbox hb; have HGgc := Aside0.mk (Nat.le_trans HB.out.size (Nat.le_of_eq hr_.symm)); have HNga := Aside0.mk (Nat.lt_of_lt_of_le (blk_lt HXga.out) (Nat.le_of_eq hr_.symm)); have HNgb := Aside0.mk (Nat.lt_of_lt_of_le (blk_lt HXgb.out) (Nat.le_of_eq hr_.symm)); replace HXga := Aside0.mk (blk_below HXga.out hb); replace HXgb := Aside0.mk (blk_below HXgb.out hb);  have HXgc := Aside0.mk hbox; have n0_ := Aside0.mk (HB.out.trans (hb.mono HB.out.size)); clear HB; have HB := n0_; clear n0_ hbox hb hr_) | (go_at_call 46; refine (topiaryref02_Check.calls 66 A0 c0 known _ _ (Kd.C_below HK.out HB.out) HKC.out HCK.out).mono ?_; rintro e w1 ⟨rfl, ⟨nd, hnd⟩⟩; have hb_ := drew_below hnd; clear hnd; have n0_ := Aside0.mk (HB.out.trans (hb_.mono HB.out.size)); clear HB; have HB := n0_; have HXa := Aside0.mk (blk_below HXga.out hb_); clear HXga; have HXga := HXa; clear HXa; have HXa := Aside0.mk (blk_below HXgb.out hb_); clear HXgb; have HXgb := HXa; clear HXa; have HXa := Aside0.mk (blk_below HXgc.out hb_); clear HXgc; have HXgc := HXa; clear HXa; clear n0_ hb_) | ((with_reducible refine gate_dst (N := 19) rfl ?_); refine load32_ev rfl (N := 19) rfl x (.slice A3 x.f2.length c3) (p := .tmp 5) rfl (ad := ⟨gb, 0, none⟩) rfl (blk_cells HXgb.out) ?_) | (go_at_call 47; refine (topiaryref05_Check.calls (x.f7.size + 400) x.f0.f0 x.f0.f1 x.f1 A3 c3 x.f2 x.f3 x.f4.f0 x.f4.f1 x.f5.f0 x.f5.f1 x.f6.f0 x.f6.f1 x.f7 x.f8 _ _ (Kd.C_below HC3.out HB.out) HL3.out HCE.out).mono ?_; rintro e w1 ⟨rfl, hb_⟩; have n0_ := Aside0.mk (HB.out.trans (hb_.mono HB.out.size)); clear HB; have HB := n0_; have HXa := Aside0.mk (blk_below HXga.out hb_); clear HXga; have HXga := HXa; clear HXa; have HXa := Aside0.mk (blk_below HXgb.out hb_); clear HXgb; have HXgb := HXa; clear HXa; have HXa := Aside0.mk (blk_below HXgc.out hb_); clear HXgc; have HXgc := HXa; clear HXa; clear n0_ hb_) | ((with_reducible refine gate_dst (N := 25) rfl ?_); refine load32_ev rfl (N := 25) rfl x (.slice A3 x.f2.length c3) (p := .tmp 5) rfl (ad := ⟨gb, 0, none⟩) rfl (blk_cells HXgb.out) ?_) | (go_at_call 50; refine (topiaryref07_Within.calls x.f0.f0 x.f0.f1 x.f1 A3 c3 x.f2 x.f3 x.f4.f0 x.f4.f1 x.f5.f0 x.f5.f1 x.f6.f0 x.f6.f1 x.f7 x.f8 A0 c0 known _ _ (Kd.C_below HC3.out HB.out) HL3.out (Kd.C_below HK.out HB.out) HKC.out HWI.out).mono ?_; rintro e w1 ⟨rfl, hb_⟩; have n0_ := Aside0.mk (HB.out.trans (hb_.mono HB.out.size)); clear HB; have HB := n0_; have HXa := Aside0.mk (blk_below HXga.out hb_); clear HXga; have HXga := HXa; clear HXa; have HXa := Aside0.mk (blk_below HXgb.out hb_); clear HXgb; have HXgb := HXa; clear HXa; have HXa := Aside0.mk (blk_below HXgc.out hb_); clear HXgc; have HXgc := HXa; clear HXa; clear n0_ hb_; have q3 := (blk_cell HXga.out 1).trans rfl; have q1 : w1.cell? ⟨ga, 1, none⟩ = some (.slice none 0 0) := q3; have q4 : w1.cell? ⟨gb, 1, none⟩ = some (.int .i64 x.f0.f1) := (blk_cell HXgb.out 1).trans rfl; have q5 : w1.cell? ⟨gb, 2, none⟩ = some (.int .i64 x.f1) := (blk_cell HXgb.out 2).trans rfl; clear q3) | (go_at_call 51; refine (topiaryref07_Own.calls 5 none 0 [] x.f0.f1 x.f1 (-1) _ (Kd.C_nil _ _) (Nat.le_refl _) rfl).mono ?_; clear q1 q4 q5; rintro e w1 ⟨rfl, ⟨nd, hnd⟩⟩; have hb_ := drew_below hnd; clear hnd; have n0_ := Aside0.mk (HB.out.trans (hb_.mono HB.out.size)); clear HB; have HB := n0_; have HXa := Aside0.mk (blk_below HXga.out hb_); clear HXga; have HXga := HXa; clear HXa; have HXa := Aside0.mk (blk_below HXgb.out hb_); clear HXgb; have HXgb := HXa; clear HXa; have HXa := Aside0.mk (blk_below HXgc.out hb_); clear HXgc; have HXgc := HXa; clear HXa; clear n0_ hb_) | ((with_reducible refine gate_dst (N := 41) rfl ?_); refine load32_ev rfl (N := 41) rfl x (.slice A3 x.f2.length c3) (p := .tmp 5) rfl (ad := ⟨gb, 0, none⟩) rfl (blk_cells HXgb.out) ?_) | (go_at_call 48; refine (topiaryref09_Ripe.calls 71 A0 c0 known x.f0.f0 x.f0.f1 x.f1 A3 c3 x.f2 x.f3 x.f4.f0 x.f4.f1 x.f5.f0 x.f5.f1 x.f6.f0 x.f6.f1 x.f7 x.f8 _ _ (Kd.C_below HK.out HB.out) HKC.out (Kd.C_below HC3.out HB.out) HL3.out HRI.out).mono ?_; rintro e w1 ⟨rfl, hb_⟩; have n0_ := Aside0.mk (HB.out.trans (hb_.mono HB.out.size)); clear HB; have HB := n0_; have HXa := Aside0.mk (blk_below HXga.out hb_); clear HXga; have HXga := HXa; clear HXa; have HXa := Aside0.mk (blk_below HXgb.out hb_); clear HXgb; have HXgb := HXa; clear HXa; have HXa := Aside0.mk (blk_below HXgc.out hb_); clear HXgc; have HXgc := HXa; clear HXa; clear n0_ hb_; have q1 : w1.cell? ⟨ga, 1, none⟩ = some (.slice none 0 0) := (blk_cell HXga.out 1).trans rfl; have q2 : w1.cell? ⟨ga, 0, none⟩ = some (.int .i64 0) := (blk_cell HXga.out 0).trans rfl) | ((with_reducible refine gate_dst (N := 50) rfl ?_); refine load52_ev rfl (N := 50) rfl 0 (.slice none 0 0) (p := .tmp 3) rfl (ad := ⟨ga, 0, none⟩) rfl (blk52 HXga.out) ?_) | ((with_reducible refine gate_store (t := 52) (p := 6) (v := .tmp 50) rfl ?_); refine store52_ev rfl rfl 0 (.slice none 0 0) (p := .tmp 6) (q := .tmp 50) rfl (g := gc) rfl rfl rfl HXgc.out rfl ?_; intro ws hb_ hg_; have HXs := Aside0.mk hb_; have HBs := Aside0.mk (HB.out.grown hg_ HB.out.size (fun k hk => by injection hk with hk; rw [← hk]; exact HGgc.out)); have HGs := Aside0.mk hg_; clear hb_ hg_))
 refine bodyPost_ret (results_ctt rfl _ _ gc 52 (bA 0 (.slice none 0 0)) (0, 0) _ rfl HXs.out hu52 rfl (by kernel_rfl)) rfl ?_
 exact RN.err HBs.out
set_option maxHeartbeats 8000000 in
set_option maxRecDepth 100000 in
theorem rtake_ripe {w : World} (A0 : Option Addr) (c0 : Nat) (known : List Int) (hk : Kd.C (Kd.int .i64) w A0 known.length known) (hkc : known.length ≤ c0) (x : S32) (A3 : Option Addr) (c3 : Nat) (hx : Kd.C (Kd.int .i64) w A3 x.f2.length x.f2) (hx3 : x.f2.length ≤ c3) (hs : x.f7.size < 4611686018427387904) (hc : chkC known = 0) (hc2 : checkX x = 0) (hw : withinX known x = false) (hr : ripeC known x = true) :
  Calls Try.prog 23 #[.agg #[.int .i64 0, .slice none 0 0], .slice A0 known.length c0, (.agg #[.int .i64 x.f0.f0, .int .i64 x.f0.f1, .int .i64 x.f1, (.slice A3 x.f2.length c3), .int .i64 x.f3, .int .i64 x.f4.f0, .int .i64 x.f4.f1, .int .i64 x.f5.f0, .int .i64 x.f5.f1, .int .i64 x.f6.f0, .int .i64 x.f6.f1, .string x.f7, .string x.f8])] w (RN w ([x], 0)) := by
 have hu52 := Try.underlying52
 have HK := Aside0.mk hk
 have HKC := Aside0.mk hkc
 have HC3 := Aside0.mk hx
 have HL3 := Aside0.mk hx3
 have HCK := Aside0.mk (ref_Check_is known 66 (by decide))
 have HB := Aside0.mk (Below.refl w.heap.size w)
 have HCE := Aside0.mk (ref_Check05_is (k := x.f7.size + 400) (a0 := x.f0.f0) (a1 := x.f0.f1) (a2 := x.f1) (d := x.f2) (a4 := x.f3) (a5 := x.f4.f0) (a6 := x.f4.f1) (a7 := x.f5.f0) (a8 := x.f5.f1) (a9 := x.f6.f0) (a10 := x.f6.f1) (s := x.f7) (t := x.f8) hs (by omega) (by omega))
 rw [show checkC x.f0.f0 x.f0.f1 x.f1 x.f2 x.f3 x.f4.f0 x.f4.f1 x.f5.f0 x.f5.f1 x.f6.f0 x.f6.f1 x.f7 x.f8 = checkX x from rfl] at HCE
 rw [hc] at HCK
 rw [hc2] at HCE
 clear hk hkc hx hx3 hs
 have HWI := Aside0.mk (within_is known x)
 rw [hw] at HWI
 clear hw
 have HRI := Aside0.mk (ripe_is (x := x) (known := known) (check_ok hc2).2.2.2.2.2 (by have := (check_ok hc2).1; omega) (by have h1_ := (check_ok hc2).2.1; have h2_ := (check_ok hc2).2.2.1; omega) 71 (by decide))
 rw [hr] at HRI
 have HTK := Aside0.mk (ref_tick_is known x 301 (by decide))
 have HNX := Aside0.mk (next_is Good.nil (tickC known x.f0.f1).1 (by decide) 100 (by decide))
 rw [show nextI (tickC known x.f0.f1).1 [] 0 = -1 from rfl] at HNX
 clear hc hc2 hr
 go_enter Try.func23, Try.ntmps23
 go_wp2_with (first | ((with_reducible refine gate_dst (N := 3) rfl ?_); refine box_event ?hg (N := 3) ?hd (cs := #[.int .i64 0, .slice none 0 0]) (t := 52) ?hr ?_; (case hd => rfl); (case hg => rfl); (case hr => first | (go_simp; done) | (go_simp; rfl)); intro ga hr_ w_ga hbox hb; have HGga := Aside0.mk (Nat.le_trans HB.out.size (Nat.le_of_eq hr_.symm));  have HXga := Aside0.mk hbox; have n0_ := Aside0.mk (HB.out.trans (hb.mono HB.out.size)); clear HB; have HB := n0_; clear n0_ hbox hb hr_) | ((with_reducible refine gate_dst (N := 5) rfl ?_); refine box_event ?hg (N := 5) ?hd (cs := #[.int .i64 x.f0.f0, .int .i64 x.f0.f1, .int .i64 x.f1, (.slice A3 x.f2.length c3), .int .i64 x.f3, .int .i64 x.f4.f0, .int .i64 x.f4.f1, .int .i64 x.f5.f0, .int .i64 x.f5.f1, .int .i64 x.f6.f0, .int .i64 x.f6.f1, .string x.f7, .string x.f8]) (t := 32) ?hr ?_; (case hd => rfl); (case hg => rfl); (case hr => first | (go_simp; done) | (go_simp; rfl)); intro gb hr_ w_gb hbox hb; have HGgb := Aside0.mk (Nat.le_trans HB.out.size (Nat.le_of_eq hr_.symm)); replace HXga := Aside0.mk (blk_below HXga.out hb);  have HXgb := Aside0.mk hbox; have n0_ := Aside0.mk (HB.out.trans (hb.mono HB.out.size)); clear HB; have HB := n0_; clear n0_ hbox hb hr_) | ((with_reducible refine gate_dst (N := 6) rfl ?_); refine box_event ?hg (N := 6) ?hd (cs := #[.int .i64 0, .slice none 0 0]) (t := 52) ?hr ?_; (case hd => rfl); (case hg => rfl); (case hr => first | (go_simp; done) | (go_simp; rfl)); intro gc hr_ w_gc hbox hb; have HGgc := Aside0.mk (Nat.le_trans HB.out.size (Nat.le_of_eq hr_.symm)); have HNga := Aside0.mk (Nat.lt_of_lt_of_le (blk_lt HXga.out) (Nat.le_of_eq hr_.symm)); have HNgb := Aside0.mk (Nat.lt_of_lt_of_le (blk_lt HXgb.out) (Nat.le_of_eq hr_.symm)); replace HXga := Aside0.mk (blk_below HXga.out hb); replace HXgb := Aside0.mk (blk_below HXgb.out hb);  have HXgc := Aside0.mk hbox; have n0_ := Aside0.mk (HB.out.trans (hb.mono HB.out.size)); clear HB; have HB := n0_; clear n0_ hbox hb hr_) | (go_at_call 46; refine (topiaryref02_Check.calls 66 A0 c0 known _ _ (Kd.C_below HK.out HB.out) HKC.out HCK.out).mono ?_; rintro e w1 ⟨rfl, ⟨nd, hnd⟩⟩; have hb_ := drew_below hnd; clear hnd; have n0_ := Aside0.mk (HB.out.trans (hb_.mono HB.out.size)); clear HB; have HB := n0_; have HXa := Aside0.mk (blk_below HXga.out hb_); clear HXga; have HXga := HXa; clear HXa; have HXa := Aside0.mk (blk_below HXgb.out hb_); clear HXgb; have HXgb := HXa; clear HXa; have HXa := Aside0.mk (blk_below HXgc.out hb_); clear HXgc; have HXgc := HXa; clear HXa; clear n0_ hb_) | ((with_reducible refine gate_dst (N := 19) rfl ?_); refine load32_ev rfl (N := 19) rfl x (.slice A3 x.f2.length c3) (p := .tmp 5) rfl (ad := ⟨gb, 0, none⟩) rfl (blk_cells HXgb.out) ?_) | (go_at_call 47; refine (topiaryref05_Check.calls (x.f7.size + 400) x.f0.f0 x.f0.f1 x.f1 A3 c3 x.f2 x.f3 x.f4.f0 x.f4.f1 x.f5.f0 x.f5.f1 x.f6.f0 x.f6.f1 x.f7 x.f8 _ _ (Kd.C_below HC3.out HB.out) HL3.out HCE.out).mono ?_; rintro e w1 ⟨rfl, hb_⟩; have n0_ := Aside0.mk (HB.out.trans (hb_.mono HB.out.size)); clear HB; have HB := n0_; have HXa := Aside0.mk (blk_below HXga.out hb_); clear HXga; have HXga := HXa; clear HXa; have HXa := Aside0.mk (blk_below HXgb.out hb_); clear HXgb; have HXgb := HXa; clear HXa; have HXa := Aside0.mk (blk_below HXgc.out hb_); clear HXgc; have HXgc := HXa; clear HXa; clear n0_ hb_) | ((with_reducible refine gate_dst (N := 25) rfl ?_); refine load32_ev rfl (N := 25) rfl x (.slice A3 x.f2.length c3) (p := .tmp 5) rfl (ad := ⟨gb, 0, none⟩) rfl (blk_cells HXgb.out) ?_) | (go_at_call 50; refine (topiaryref07_Within.calls x.f0.f0 x.f0.f1 x.f1 A3 c3 x.f2 x.f3 x.f4.f0 x.f4.f1 x.f5.f0 x.f5.f1 x.f6.f0 x.f6.f1 x.f7 x.f8 A0 c0 known _ _ (Kd.C_below HC3.out HB.out) HL3.out (Kd.C_below HK.out HB.out) HKC.out HWI.out).mono ?_; rintro e w1 ⟨rfl, hb_⟩; have n0_ := Aside0.mk (HB.out.trans (hb_.mono HB.out.size)); clear HB; have HB := n0_; have HXa := Aside0.mk (blk_below HXga.out hb_); clear HXga; have HXga := HXa; clear HXa; have HXa := Aside0.mk (blk_below HXgb.out hb_); clear HXgb; have HXgb := HXa; clear HXa; have HXa := Aside0.mk (blk_below HXgc.out hb_); clear HXgc; have HXgc := HXa; clear HXa; clear n0_ hb_; have q3 := (blk_cell HXga.out 1).trans rfl; have q1 : w1.cell? ⟨ga, 1, none⟩ = some (.slice none 0 0) := q3; have q4 : w1.cell? ⟨gb, 1, none⟩ = some (.int .i64 x.f0.f1) := (blk_cell HXgb.out 1).trans rfl; have q5 : w1.cell? ⟨gb, 2, none⟩ = some (.int .i64 x.f1) := (blk_cell HXgb.out 2).trans rfl; clear q3) | (go_at_call 51; refine (topiaryref07_Own.calls 5 none 0 [] x.f0.f1 x.f1 (-1) _ (Kd.C_nil _ _) (Nat.le_refl _) rfl).mono ?_; clear q1 q4 q5; rintro e w1 ⟨rfl, ⟨nd, hnd⟩⟩; have hb_ := drew_below hnd; clear hnd; have n0_ := Aside0.mk (HB.out.trans (hb_.mono HB.out.size)); clear HB; have HB := n0_; have HXa := Aside0.mk (blk_below HXga.out hb_); clear HXga; have HXga := HXa; clear HXa; have HXa := Aside0.mk (blk_below HXgb.out hb_); clear HXgb; have HXgb := HXa; clear HXa; have HXa := Aside0.mk (blk_below HXgc.out hb_); clear HXgc; have HXgc := HXa; clear HXa; clear n0_ hb_) | ((with_reducible refine gate_dst (N := 41) rfl ?_); refine load32_ev rfl (N := 41) rfl x (.slice A3 x.f2.length c3) (p := .tmp 5) rfl (ad := ⟨gb, 0, none⟩) rfl (blk_cells HXgb.out) ?_) | (go_at_call 48; refine (topiaryref09_Ripe.calls 71 A0 c0 known x.f0.f0 x.f0.f1 x.f1 A3 c3 x.f2 x.f3 x.f4.f0 x.f4.f1 x.f5.f0 x.f5.f1 x.f6.f0 x.f6.f1 x.f7 x.f8 _ _ (Kd.C_below HK.out HB.out) HKC.out (Kd.C_below HC3.out HB.out) HL3.out HRI.out).mono ?_; rintro e w1 ⟨rfl, hb_⟩; have n0_ := Aside0.mk (HB.out.trans (hb_.mono HB.out.size)); clear HB; have HB := n0_; have HXa := Aside0.mk (blk_below HXga.out hb_); clear HXga; have HXga := HXa; clear HXa; have HXa := Aside0.mk (blk_below HXgb.out hb_); clear HXgb; have HXgb := HXa; clear HXa; have HXa := Aside0.mk (blk_below HXgc.out hb_); clear HXgc; have HXgc := HXa; clear HXa; clear n0_ hb_; have q1 : w1.cell? ⟨ga, 1, none⟩ = some (.slice none 0 0) := (blk_cell HXga.out 1).trans rfl; have q2 : w1.cell? ⟨ga, 0, none⟩ = some (.int .i64 0) := (blk_cell HXga.out 0).trans rfl) | ((with_reducible refine gate_dst (N := 59) rfl ?_); refine load32_ev rfl (N := 59) rfl x (.slice A3 x.f2.length c3) (p := .tmp 5) rfl (ad := ⟨gb, 0, none⟩) rfl (blk_cells HXgb.out) ?_) | ((with_reducible refine gate_dst (N := 60) rfl ?_); refine lit_event ?hg (N := 60) ?hd (cs := #[.int .i64 x.f0.f0, .int .i64 x.f0.f1, .int .i64 x.f1, (.slice A3 x.f2.length c3), .int .i64 x.f3, .int .i64 x.f4.f0, .int .i64 x.f4.f1, .int .i64 x.f5.f0, .int .i64 x.f5.f1, .int .i64 x.f6.f0, .int .i64 x.f6.f1, .string x.f7, .string x.f8]) ?hr ?_; (case hd => rfl); (case hg => rfl); (case hr => first | (go_simp; done) | (go_simp; rfl)); clear q1 q2; intro gd hr_ w1 hbox hb_; have HXgd := Aside0.mk hbox; have HNd := Aside0.mk (Nat.lt_of_lt_of_le (blk_lt HXgc.out) (Nat.le_of_eq hr_.symm)); clear hbox hr_; have n0_ := Aside0.mk (HB.out.trans (hb_.mono HB.out.size)); clear HB; have HB := n0_; have HXa := Aside0.mk (blk_below HXga.out hb_); clear HXga; have HXga := HXa; clear HXa; have HXa := Aside0.mk (blk_below HXgb.out hb_); clear HXgb; have HXgb := HXa; clear HXa; have HXa := Aside0.mk (blk_below HXgc.out hb_); clear HXgc; have HXgc := HXa; clear HXa; clear n0_ hb_; have q1 : w1.cell? ⟨ga, 1, none⟩ = some (.slice none 0 0) := (blk_cell HXga.out 1).trans rfl) | ((with_reducible refine gate_dst (N := 64) rfl ?_); refine load32_ev rfl (N := 64) rfl x (.slice A3 x.f2.length c3) (p := .tmp 5) rfl (ad := ⟨gb, 0, none⟩) rfl (blk_cells HXgb.out) ?_) | (go_at_call 53; refine (topiaryref09_tick.calls 301 A0 c0 known x.f0.f0 x.f0.f1 x.f1 A3 c3 x.f2 x.f3 x.f4.f0 x.f4.f1 x.f5.f0 x.f5.f1 x.f6.f0 x.f6.f1 x.f7 x.f8 _ _ (Kd.C_below HK.out HB.out) HKC.out (Kd.C_below HC3.out HB.out) HL3.out HTK.out).mono ?_; rintro e w1 ⟨vt, rfl, ht_, hb_⟩; clear q1; obtain ⟨At, ct, rfl⟩ := Kd.R_slice ht_; have HT := Aside0.mk (Kd.R_reads' ht_); clear ht_; have HXd := Aside0.mk (blk_below HXgd.out hb_); clear HXgd; have HXgd := HXd; clear HXd; have n0_ := Aside0.mk (HB.out.trans (hb_.mono HB.out.size)); clear HB; have HB := n0_; have HXa := Aside0.mk (blk_below HXga.out hb_); clear HXga; have HXga := HXa; clear HXa; have HXa := Aside0.mk (blk_below HXgb.out hb_); clear HXgb; have HXgb := HXa; clear HXa; have HXa := Aside0.mk (blk_below HXgc.out hb_); clear HXgc; have HXgc := HXa; clear HXa; clear n0_ hb_))
 obtain ⟨wl, hwl⟩ : ∃ wl, wl = w1 := ⟨_, rfl⟩
 go_loopw [9, 10, 11] (fun v9 v10 v11 wq => v9 = .slice (some ⟨gd, 0, none⟩) 1 1 ∧ v10 = .slice none 0 0 ∧ v11 = .slice At (tickC known x.f0.f1).1.length ct ∧ Aside0 (Below w1.heap.size w1 wq)) (fun _ _ _ _ => 0)
 case atStart => exact ⟨rfl, rfl, rfl, ⟨Below.refl _ _⟩⟩
 case round =>
  obtain ⟨rfl, rfl, rfl, HBq⟩ := hrel
  go_wp2_with (first | (go_at_call 54; refine (topiaryref09_next.calls 100 At ct (tickC known x.f0.f1).1 none 0 [] (-1) _ (Kd.C_below HT.out.2.2 HBq.out) HT.out.2.1 (Kd.C_nil _ _) (Nat.le_refl _) HNX.out).mono ?_; rintro e w1 ⟨rfl, hb_⟩; have HBz := Aside0.mk (HBq.out.trans (hb_.mono HBq.out.size)); have q2 : w1.cell? ⟨ga, 0, none⟩ = some (.int .i64 0) := (blk_cell (blk_below HXga.out HBz.out) 0).trans rfl; have HBy := Aside0.mk (HB.out.trans (HBz.out.mono HB.out.size)); clear HB; have HB := HBy; have HXy := Aside0.mk (blk_below HXgc.out HBz.out); clear HXgc; have HXgc := HXy; clear hb_) | ((with_reducible refine gate_store (t := 52) (p := 6) (v := .tmp 92) rfl ?_); refine store52_ev rfl rfl 0 (.slice none 0 0) (p := .tmp 6) (q := .tmp 92) rfl (g := gc) rfl rfl rfl HXgc.out rfl ?_; intro ws hb_ hg_; have HXs := Aside0.mk hb_; have HBs := Aside0.mk (HB.out.grown hg_ HB.out.size (fun k hk => by injection hk with hk; rw [← hk]; exact HGgc.out)); have HGs := Aside0.mk hg_; clear hb_ hg_))
  refine bodyPost_ret (results_ctt rfl _ _ gc 52 (bA 0 (.slice none 0 0)) (0, 0) _ rfl HXs.out hu52 rfl (by kernel_rfl)) rfl ?_
  have hxd := blk_below HXgd.out HBz.out
  exact ⟨_, _, _, rfl, rfl, Nat.le_refl _, C_one ((HGs.out.block gd (blk_lt hxd) (fun h => by injection h with h; have h1_ := HNd.out; omega)).trans hxd) HL3.out (Kd.C_below HC3.out HBs.out), HBs.out⟩
theorem rtake_nil {w : World} (A0 : Option Addr) (c0 : Nat) (known : List Int) (hk : Kd.C (Kd.int .i64) w A0 known.length known) (hkc : known.length ≤ c0) (x : S32) (A3 : Option Addr) (c3 : Nat) (hx : Kd.C (Kd.int .i64) w A3 x.f2.length x.f2) (hx3 : x.f2.length ≤ c3) (hs : x.f7.size < 4611686018427387904) :
  Calls Try.prog 23 #[.agg #[.int .i64 0, .slice none 0 0], .slice A0 known.length c0, (.agg #[.int .i64 x.f0.f0, .int .i64 x.f0.f1, .int .i64 x.f1, (.slice A3 x.f2.length c3), .int .i64 x.f3, .int .i64 x.f4.f0, .int .i64 x.f4.f1, .int .i64 x.f5.f0, .int .i64 x.f5.f1, .int .i64 x.f6.f0, .int .i64 x.f6.f1, .string x.f7, .string x.f8])] w (RN w (takeF 0 [] known x).2) := by
 unfold takeF
 by_cases c1 : chkC known = 0
 ·rw [if_pos c1]
  by_cases c2 : checkX x = 0
  ·rw [if_pos c2, show ownX [] x = false from rfl, Bool.or_false]
   cases hw : withinX known x with
   | true =>
    rw [if_pos (rfl : true = true)]
    exact rtake_within A0 c0 known hk hkc x A3 c3 hx hx3 hs c1 c2 hw
   | false =>
    rw [if_neg Bool.false_ne_true]
    cases hr : ripeC known x with
    | true =>
     rw [if_pos (rfl : true = true)]
     exact rtake_ripe A0 c0 known hk hkc x A3 c3 hx hx3 hs c1 c2 hw hr
    | false =>
     rw [if_neg Bool.false_ne_true, if_pos (show (0 : Int) ≤ ((([] : List S32).length : Nat) : Int) from Int.le_refl _)]
     exact rtake_full A0 c0 known hk hkc x A3 c3 hx hx3 hs c1 c2 hw hr
  ·rw [if_neg c2]
   exact rtake_bad A0 c0 known hk hkc x A3 c3 hx hx3 hs c1 c2
 ·rw [if_neg c1]
  exact rtake_chk A0 c0 known hk hkc x A3 c3 hx hx3 hs c1
def sml.T6 : Bool × List (List Nat × List Nat) := (true, [([], []), ([], []), ([0, 1], [0, 1]), ([2], [2]), ([], []), ([], []), ([4, 5], [4, 5]), ([6], [6]), ([3, 7], [3, 7]), ([8], [8])])
def sml.B6 : List Nat := [0, 0, 3, 7, 0, 0, 48, 112, 255, 511]
theorem sml.tab6 : rtab .any (opsOf Try.f15 6) = sml.T6 := by kernel_rfl
theorem sml.bits6 : waitsOk sml.T6.2 sml.B6 = true := by kernel_rfl
theorem drawn_below {w w1 : World} {nd : Nat} (h : w1 = w.drewN nd) : Below w.heap.size w w1 := by rw [h]; exact pw_below_drewN (Below.refl _ _) nd
/-- An element of a list. -/
theorem elemS {w : World} {A1 : Option Addr} {l : List S32} (hl : Kd.C k32 w A1 l.length l) {i : Nat} (hi : i < l.length) :
  ∃ ad A3 c3, A1 = some ad ∧ (∀ W, Below w.heap.size w W → ∀ j u, (chL (rd_T32 l (i : Int)) (.slice A3 (rd_T32 l (i : Int)).f2.length c3))[j]? = some u → W.cell? ((ad.add (i * 13)).add j) = some u) ∧ (rd_T32 l (i : Int)).f2.length ≤ c3 ∧ (Kd.int .i64).C w A3 (rd_T32 l (i : Int)).f2.length (rd_T32 l (i : Int)).f2 := by
 obtain ⟨ad, c, e, hcl, hK, hcc⟩ := Kd.C_get hl z32 (i : Int) (by omega) (by omega)
 obtain ⟨A3, c3, rfl, l3, g3⟩ := k32_open hK
 rw [Int.toNat_natCast] at hcc
 refine ⟨ad, A3, c3, e, fun W hb j u hj => ?_, l3, g3⟩
 rw [add_add]
 have h := hcc j u hj
 exact (hb.cell (World.block_lt_of_cell? w _ h)).trans h
set_option maxHeartbeats 8000000 in
set_option maxRecDepth 100000 in
theorem same_self {w : World} (x : S32) (A3 : Option Addr) (c3 : Nat) (B3 : Option Addr) (d3 : Nat) (hx : Kd.C (Kd.int .i64) w A3 x.f2.length x.f2) (hx3 : x.f2.length ≤ c3) (hy : Kd.C (Kd.int .i64) w B3 x.f2.length x.f2) (hy3 : x.f2.length ≤ d3) (h64 : x.f2.length ≤ 64) :
  Calls Try.prog 45 #[(.agg #[.int .i64 x.f0.f0, .int .i64 x.f0.f1, .int .i64 x.f1, (.slice A3 x.f2.length c3), .int .i64 x.f3, .int .i64 x.f4.f0, .int .i64 x.f4.f1, .int .i64 x.f5.f0, .int .i64 x.f5.f1, .int .i64 x.f6.f0, .int .i64 x.f6.f1, .string x.f7, .string x.f8]), (.agg #[.int .i64 x.f0.f0, .int .i64 x.f0.f1, .int .i64 x.f1, (.slice B3 x.f2.length d3), .int .i64 x.f3, .int .i64 x.f4.f0, .int .i64 x.f4.f1, .int .i64 x.f5.f0, .int .i64 x.f5.f1, .int .i64 x.f6.f0, .int .i64 x.f6.f1, .string x.f7, .string x.f8])] w fun e w' => e = .returned (.bool true) ∧ Below w.heap.size w w' := by
 have hu32 := Try.underlying32
 have hu30 := Try.underlying30
 have HC3 := Aside0.mk hx
 have HL3 := Aside0.mk hx3
 have HD3 := Aside0.mk hy
 have HM3 := Aside0.mk hy3
 have HS2 : Aside0 (topiaryref02_Same.f 100 x.f2 x.f2 = some true) := ⟨by unfold topiaryref02_Same.f; rw [if_pos rfl]; exact same02_self x.f2 x.f2.length 0 100 (by omega) (by omega) (by omega)⟩
 have HB := Aside0.mk (Below.refl w.heap.size w)
 clear hx hx3 hy hy3 h64
 go_enter Try.func45, Try.ntmps45
 go_wp2_with (first | ((with_reducible refine gate_dst (N := 2) rfl ?_); refine box_event ?hg (N := 2) ?hd (cs := #[.int .i64 x.f0.f0, .int .i64 x.f0.f1, .int .i64 x.f1, (.slice A3 x.f2.length c3), .int .i64 x.f3, .int .i64 x.f4.f0, .int .i64 x.f4.f1, .int .i64 x.f5.f0, .int .i64 x.f5.f1, .int .i64 x.f6.f0, .int .i64 x.f6.f1, .string x.f7, .string x.f8]) (t := 32) ?hr ?_; (case hd => rfl); (case hg => rfl); (case hr => first | (go_simp; done) | (go_simp; rfl)); intro ga hr_ w_ga hbox hb; have HXA := Aside0.mk hbox; obtain ⟨ha0, ha1, ha2, ha3, ha4, ha5, ha6, ha7, ha8, ha9, ha10, ha11, ha12⟩ := cells13 hbox; have n0_ := Aside0.mk (HB.out.trans (hb.mono HB.out.size)); clear HB; have HB := n0_; clear n0_ hb hr_) | ((with_reducible refine gate_dst (N := 3) rfl ?_); refine box_event ?hg (N := 3) ?hd (cs := #[.int .i64 x.f0.f0, .int .i64 x.f0.f1, .int .i64 x.f1, (.slice B3 x.f2.length d3), .int .i64 x.f3, .int .i64 x.f4.f0, .int .i64 x.f4.f1, .int .i64 x.f5.f0, .int .i64 x.f5.f1, .int .i64 x.f6.f0, .int .i64 x.f6.f1, .string x.f7, .string x.f8]) (t := 32) ?hr ?_; (case hd => rfl); (case hg => rfl); (case hr => first | (go_simp; done) | (go_simp; rfl)); intro gb hr_ w_gb hbox hb; have hA := Aside0.mk (blk_below HXA.out hb); clear HXA ha0 ha1 ha2 ha3 ha4 ha5 ha6 ha7 ha8 ha9 ha10 ha11 ha12; obtain ⟨ha0, ha1, ha2, ha3, ha4, ha5, ha6, ha7, ha8, ha9, ha10, ha11, ha12⟩ := cells13 hA.out; have HXA := hA; clear hA; have HXB := Aside0.mk hbox; obtain ⟨hb0, hb1, hb2, hb3, hb4, hb5, hb6, hb7, hb8, hb9, hb10, hb11, hb12⟩ := cells13 hbox; have n0_ := Aside0.mk (HB.out.trans (hb.mono HB.out.size)); clear HB; have HB := n0_; clear n0_ hb hr_) | (go_at_call 24; refine (topiaryref02_Same.calls 100 A3 c3 x.f2 B3 d3 x.f2 true _ (Kd.C_below HC3.out HB.out) HL3.out (Kd.C_below HD3.out HB.out) HM3.out HS2.out).mono ?_; clear ha0 ha1 ha2 ha3 ha4 ha5 ha6 ha7 ha8 ha9 ha10 ha11 ha12 hb0 hb1 hb2 hb3 hb4 hb5 hb6 hb7 hb8 hb9 hb10 hb11 hb12; rintro e w1 ⟨rfl, ⟨nd, hnd⟩⟩; have hb_ := drawn_below hnd; clear hnd; obtain ⟨ha0, ha1, ha2, ha3, ha4, ha5, ha6, ha7, ha8, ha9, ha10, ha11, ha12⟩ := cells13 (blk_below HXA.out hb_); obtain ⟨hb0, hb1, hb2, hb3, hb4, hb5, hb6, hb7, hb8, hb9, hb10, hb11, hb12⟩ := cells13 (blk_below HXB.out hb_); have n0_ := Aside0.mk (HB.out.trans (hb_.mono HB.out.size)); clear HB; have HB := n0_; clear n0_ hb_))
 go_ret
 exact ⟨by simp, HB.out⟩
set_option maxHeartbeats 8000000 in
set_option maxRecDepth 100000 in
theorem sameAll_self {w : World} (A0 : Option Addr) (c0 : Nat) (A1 : Option Addr) (c1 : Nat) (l : List S32) (h0 : Kd.C k32 w A0 l.length l) (hc0 : l.length ≤ c0) (h1 : Kd.C k32 w A1 l.length l) (hc1 : l.length ≤ c1) (hx : ∀ x ∈ l, x.f2.length ≤ 64) (hl : l.length < 90000) :
  Calls Try.prog 15 #[.slice A0 l.length c0, .slice A1 l.length c1] w fun e w' => e = .returned (.bool true) ∧ Below w.heap.size w w' := by
 have H0 := Aside0.mk h0
 have H1 := Aside0.mk h1
 have H64 := Aside0.mk hx
 have HL := Aside0.mk hl
 have e0 : ((l.length : Int) != (l.length : Int)) = false := by rw [bne_eq_false_iff_eq]
 clear h0 h1 hc0 hc1 hx hl
 go_enter Try.func15, Try.ntmps15
 go_wp2_with (fail)
 go_loopw [5] (fun v5 wq => ∃ i : Nat, v5 = .int .i64 (i : Int) ∧ Aside0 (i ≤ l.length) ∧ Aside0 (Below w.heap.size w wq)) (fun v5 _ => l.length - (intOf v5).toNat)
 case atStart => exact ⟨0, rfl, ⟨Nat.zero_le _⟩, ⟨Below.refl _ _⟩⟩
 case round =>
  obtain ⟨i, rfl, HI, HBq⟩ := hrel
  by_cases hi : i < l.length
  case neg =>
   have b3 : decide (i < l.length) = false := decide_eq_false hi
   go_wp2_with (fail)
   go_ret
   exact ⟨rfl, HBq.out⟩
  obtain ⟨ad, A3, c3, rfl, hcc, hl3, hC3⟩ := elemS H0.out hi
  obtain ⟨ad', B3, d3, rfl, hcc', hl3', hC3'⟩ := elemS H1.out hi
  have hmem : rd_T32 l (i : Int) ∈ l := List.mem_of_getElem? (rd32_at hi)
  have HY := Aside0.mk (H64.out _ hmem)
  clear hmem
  generalize rd_T32 l (i : Int) = y at *
  have HCA := Aside0.mk hcc
  have HCB := Aside0.mk hcc'
  have HC3 := Aside0.mk hC3
  have HD3 := Aside0.mk hC3'
  have HL3 := Aside0.mk hl3
  have HM3 := Aside0.mk hl3'
  have HI' := Aside0.mk hi
  have b1 : (0 ≤ (i : Int)) = True := eq_true (by omega)
  have b2 : ((i : Int) < (l.length : Int)) = True := eq_true (by omega)
  have b3 : (i < l.length) = True := eq_true hi
  have b4 : decide (i < l.length) = true := decide_eq_true hi
  have hiw : wrap64 ((i : Int) + 1) = ((i + 1 : Nat) : Int) := by have h1_ := HL.out; exact w1s (by omega)
  have HIW := Aside0.mk hiw
  clear hcc hcc' hC3 hC3' hl3 hl3' hi hiw
  go_wp2_with (fail)
  refine start_ (n := 10) (S := (fun w' => Below w.heap.size w w')) (ds := []) #[false, false, false, false, false, false, false, false, false, false] (by kernel_rfl) rfl rfl (below_drew HBq.out) (fun hHeld => ?_)
  refine with_tabW sml.tab6 sml.bits6 (fun HT_ HW_ => ?_)
  refine pureS (i := 0) (N := (some 17)) #[true, false, false, false, false, false, false, false, false, false] HT_ ?_
  refine pureS (i := 1) (N := (some 18)) #[true, true, false, false, false, false, false, false, false, false] HT_ ?_
  refine pureS (i := 2) (N := (some 19)) #[true, true, true, false, false, false, false, false, false, false] HT_ ?_
  refine pureS (i := 4) (N := (some 21)) #[true, true, true, false, true, false, false, false, false, false] HT_ ?_
  refine pureS (i := 5) (N := (some 22)) #[true, true, true, false, true, true, false, false, false, false] HT_ ?_
  refine pureS (i := 6) (N := (some 23)) #[true, true, true, false, true, true, true, false, false, false] HT_ ?_
  refine take_ (i := 3) (N := (some 20)) (v := ?_) (a' := ?_) #[true, true, true, true, true, true, true, false, false, false] rfl rfl (take_ofW HT_.out HW_.out (by kernel_rfl)) (fun _ _ _ h => h) (Or.inl ⟨by rfl, ?_⟩) hHeld ?_ ?_
  rotate_left
  ·rintro w' s0
   refine Eq.trans (load32_run (x := y) (v := (.slice A3 y.f2.length c3)) _ (p := .tmp 19) ?ho_ ?hp_ (HCA.out w' s0)) ?hr_
   case ho_ => rfl
   case hp_ => rfl
   case hr_ => rfl
  rotate_left
  ·simp only [Act.put, List.setIfInBounds_toArray, List.set_cons_zero, List.set_cons_succ, i64_w, i32_w]
   rfl
  refine take_ (i := 7) (N := (some 24)) (v := ?_) (a' := ?_) #[true, true, true, true, true, true, true, true, false, false] rfl rfl (take_ofW HT_.out HW_.out (by kernel_rfl)) (fun _ _ _ h => h) (Or.inl ⟨by rfl, ?_⟩) hHeld ?_ ?_
  rotate_left
  ·rintro w' s0
   refine Eq.trans (load32_run (x := y) (v := (.slice B3 y.f2.length d3)) _ (p := .tmp 23) ?ho_ ?hp_ (HCB.out w' s0)) ?hr_
   case ho_ => rfl
   case hp_ => rfl
   case hr_ => rfl
  rotate_left
  ·simp only [Act.put, List.setIfInBounds_toArray, List.set_cons_zero, List.set_cons_succ, i64_w, i32_w]
   rfl
  refine one_ (i := 8) (N := (some 25)) #[true, true, true, true, true, true, true, true, true, false] rfl rfl (one_of HT_.out (by kernel_rfl)) (by decide) (fun K hK => ?_)
  refine goes_ Try.func45 (by kernel_rfl) rfl #[(.agg #[.int .i64 y.f0.f0, .int .i64 y.f0.f1, .int .i64 y.f1, (.slice A3 y.f2.length c3), .int .i64 y.f3, .int .i64 y.f4.f0, .int .i64 y.f4.f1, .int .i64 y.f5.f0, .int .i64 y.f5.f1, .int .i64 y.f6.f0, .int .i64 y.f6.f1, .string y.f7, .string y.f8]), (.agg #[.int .i64 y.f0.f0, .int .i64 y.f0.f1, .int .i64 y.f1, (.slice B3 y.f2.length d3), .int .i64 y.f3, .int .i64 y.f4.f0, .int .i64 y.f4.f1, .int .i64 y.f5.f0, .int .i64 y.f5.f1, .int .i64 y.f6.f0, .int .i64 y.f6.f1, .string y.f7, .string y.f8])] (by rfl) rfl rfl (by (try simp only [List.map_toArray, List.map_cons, List.map_nil]); first | done | rfl) ?_
  refine (same_self y A3 c3 B3 d3 (Kd.C_below HC3.out hHeld) HL3.out (Kd.C_below HD3.out hHeld) HM3.out HY.out).mono ?_
  rintro e w1 ⟨rfl, hb1⟩
  refine ⟨_, rfl, ?_⟩
  refine hK.out _ _ ((hHeld.trans (hb1.mono hHeld.size))) (fun hHeld => ?_)
  clear hK K
  refine norm_ (a' := ?_) ?_ ?_
  rotate_left
  ·show Act.put _ (some 25) _ = _
   simp only [Act.put, List.setIfInBounds_toArray, List.set_cons_zero, List.set_cons_succ, i64_w, i32_w]
   rfl
  refine pureS (i := 9) (N := (some 26)) #[true, true, true, true, true, true, true, true, true, true] HT_ ?_
  refine done_ (done_of HT_.out (by kernel_rfl)) ?_
  go_wp2_with (fail)
  rw [HIW.out]
  exact ⟨⟨i + 1, rfl, ⟨HI'.out⟩, ⟨hHeld⟩⟩, dec_lt HI'.out⟩
end Go.Proofs.Ytnopjjilpgekfaa.PCa
