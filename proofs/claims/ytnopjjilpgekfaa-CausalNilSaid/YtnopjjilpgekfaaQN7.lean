/- What the statement's row needs of this session's texts, joined by program: part 8. -/
import Derived.Test.YtnopjjilpgekfaaQN6
namespace Go.Proofs.Ytnopjjilpgekfaa.PCa
open Go.RowKit Go.Proofs.YtnopjjilpgekfaaW.PrintWords Go.Proofs.YtnopjjilpgekfaaW.PrintLast Go.Proofs.YtnopjjilpgekfaaW.PrintMore
attribute [local go_sem] max2_int min2_int max_two min_two max_three min_three max_four min_four
set_option linter.unusedVariables false
set_option linter.unusedSimpArgs false
def tko.T1 : Bool × List (List Nat × List Nat) := (true, [([], []), ([0], [0]), ([], []), ([2], [2]), ([3], [3]), ([1, 4], [1, 4]), ([5, 1], [5]), ([6], [6]), ([7, 6, 6], [6, 7]), ([6], [6]), ([9, 6], [6, 9]), ([8, 10, 6], [6, 8, 10]), ([6, 11], [6, 11]), ([12, 8], [12]), ([13], [13]), ([14, 13, 13], [13, 14]), ([13], [13]), ([16, 13], [13, 16]), ([15, 17, 15, 13], [13, 15, 17]), ([13, 18], [13, 18]), ([19, 18, 0, 1, 2, 3, 4, 5, 6, 7, 8, 9, 10, 11, 12, 13, 14, 15, 16, 17, 18, 19], [19])])
def tko.B1 : List Nat := [0, 1, 0, 4, 12, 31, 63, 127, 255, 127, 639, 2047, 4095, 8191, 16383, 32767, 16383, 81919, 262143, 524287, 1048575]
theorem tko.tab1 : rtab .any (opsOf Try.f30 1) = tko.T1 := by kernel_rfl
theorem tko.bits1 : waitsOk tko.T1.2 tko.B1 = true := by kernel_rfl
theorem len_nilB (w : World) : Calls Try.prog 16 #[.pointer none] w fun e w' => e = .returned (.int .i64 0) ∧ Below w.heap.size w w' := (len_nil w).mono fun e w' h => ⟨h.1, by rw [h.2]; exact Below.refl _ _⟩
theorem room_nilB (w : World) : Calls Try.prog 40 #[.pointer none] w fun e w' => e = .returned (.int .i64 0) ∧ Below w.heap.size w w' := (room_nil w).mono fun e w' h => ⟨h.1, by rw [h.2]; exact Below.refl _ _⟩
theorem held_nilB (w : World) : Calls Try.prog 22 #[.pointer none] w fun e w' => e = .returned (.slice none 0 0) ∧ Below w.heap.size w w' := (held_nil w).mono fun e w' h => ⟨h.1, by rw [h.2]; exact Below.refl _ _⟩
theorem clone_nil (w : World) : Calls Try.prog 27 #[.pointer none] w fun e w' => e = .returned (.pointer none) ∧ Below w.heap.size w w' := by
 go_enter Try.func27, Try.ntmps27
 go_wp2_with (fail)
 go_ret
 exact ⟨rfl, Below.refl _ _⟩
theorem take_nil_out (known : List Int) (x : S32) : (∀ y ∈ (takeF 0 [] known x).2.1, y.f2.length ≤ 64) ∧ (takeF 0 [] known x).2.1.length < 90000 := by
 have h0 : (∀ y ∈ ([] : List S32), y.f2.length ≤ 64) ∧ ([] : List S32).length < 90000 := ⟨fun _ h => absurd h (List.not_mem_nil), by decide⟩
 unfold takeF
 split
 ·split
  ·rename_i c2
   split
   ·exact h0
   ·split
    ·exact ⟨fun y hy => by rw [List.mem_singleton.1 hy]; exact (check_ok c2).2.2.2.2.2, (by decide : 1 < 90000)⟩
    ·rw [if_pos (show (0 : Int) ≤ ((([] : List S32).length : Nat) : Int) from Int.le_refl _)]
     exact h0
  ·exact h0
 ·exact h0
set_option maxHeartbeats 8000000 in
set_option maxRecDepth 100000 in
theorem told_nil (w : World) : Calls Try.prog 30 #[.pointer none, .agg #[.int .i64 0, .slice none 0 0]] w fun e w' => e = .returned (.bool true) ∧ Below w.heap.size w w' := by
 go_enter Try.func30, Try.ntmps30
 go_wp2_with (first | ((with_reducible refine gate_dst (N := 3) rfl ?_); refine box_event ?hg (N := 3) ?hd (cs := #[.int .i64 0, .slice none 0 0]) (t := 52) ?hr ?_; (case hd => rfl); (case hg => rfl); (case hr => first | (go_simp; done) | (go_simp; rfl)); intro gb hr_ w0 hbox hb; have HXgb := Aside0.mk hbox; have HBgb := Aside0.mk hb; clear hbox hb hr_))
 refine start_ (n := 21) (S := (fun w' => w'.heap[gb]? = some (.cells #[.int .i64 0, .slice none 0 0] 52 (0, 0)))) (ds := []) #[false, false, false, false, false, false, false, false, false, false, false, false, false, false, false, false, false, false, false, false, false] (by kernel_rfl) rfl rfl (HXgb.out) (fun hHeld => ?_)
 refine with_tabW tko.tab1 tko.bits1 (fun HT_ HW_ => ?_)
 refine pureS (i := 0) (N := (some 5)) #[true, false, false, false, false, false, false, false, false, false, false, false, false, false, false, false, false, false, false, false, false] HT_ ?_
 refine pureS (i := 2) (N := (some 7)) #[true, false, true, false, false, false, false, false, false, false, false, false, false, false, false, false, false, false, false, false, false] HT_ ?_
 refine take_ (i := 3) (N := (some 8)) (v := ?_) (a' := ?_) #[true, false, true, true, false, false, false, false, false, false, false, false, false, false, false, false, false, false, false, false, false] rfl rfl (take_ofW HT_.out HW_.out (by kernel_rfl)) (fun _ _ _ h => h) (Or.inl ⟨by rfl, ?_⟩) hHeld ?_ ?_
 rotate_left
 ·rintro w' s0; have f1 : w'.cell? ⟨gb, 1, none⟩ = some (.slice none 0 0) := (blk_cell s0 1).trans rfl; have f0 : w'.cell? ⟨gb, 0, none⟩ = some (.int .i64 0) := (blk_cell s0 0).trans rfl
  go_simp
  with_reducible rfl
 rotate_left
 ·simp only [Act.put, List.setIfInBounds_toArray, List.set_cons_zero, List.set_cons_succ, i64_w, i32_w]
  rfl
 refine pureS (i := 4) (N := (some 9)) #[true, false, true, true, true, false, false, false, false, false, false, false, false, false, false, false, false, false, false, false, false] HT_ ?_
 refine one_ (i := 1) (N := (some 6)) #[true, true, true, true, true, false, false, false, false, false, false, false, false, false, false, false, false, false, false, false, false] rfl rfl (one_of HT_.out (by kernel_rfl)) (by decide) (fun K hK => ?_)
 refine goes_ Try.func16 (by kernel_rfl) rfl #[.pointer none] (by rfl) rfl rfl (by (try simp only [List.map_toArray, List.map_cons, List.map_nil]); first | done | rfl) ?_
 refine (len_nilB _).mono ?_
 rintro e w1 ⟨rfl, hb1⟩
 refine ⟨_, rfl, ?_⟩
 have hS1 : (fun w' => w'.heap[gb]? = some (.cells #[.int .i64 0, .slice none 0 0] 52 (0, 0))) w1 := blk_below (w := w0.drew) hHeld hb1
 have HB1 := Aside0.mk ((below_drew HBgb.out).trans (hb1.mono (below_drew HBgb.out).size))
 clear hb1
 refine hK.out _ _ (hS1) (fun hHeld => ?_)
 clear hK K
 refine norm_ (a' := ?_) ?_ ?_
 rotate_left
 ·show Act.put _ (some 6) _ = _
  simp only [Act.put, List.setIfInBounds_toArray, List.set_cons_zero, List.set_cons_succ, i64_w, i32_w]
  rfl
 refine pureS (i := 5) (N := (some 10)) #[true, true, true, true, true, true, false, false, false, false, false, false, false, false, false, false, false, false, false, false, false] HT_ ?_
 refine pureS (i := 6) (N := (some 11)) #[true, true, true, true, true, true, true, false, false, false, false, false, false, false, false, false, false, false, false, false, false] HT_ ?_
 refine pureS (i := 7) (N := (some 12)) #[true, true, true, true, true, true, true, true, false, false, false, false, false, false, false, false, false, false, false, false, false] HT_ ?_
 refine pureS (i := 9) (N := (some 14)) #[true, true, true, true, true, true, true, true, false, true, false, false, false, false, false, false, false, false, false, false, false] HT_ ?_
 refine take_ (i := 10) (N := (some 15)) (v := ?_) (a' := ?_) #[true, true, true, true, true, true, true, true, false, true, true, false, false, false, false, false, false, false, false, false, false] rfl rfl (take_ofW HT_.out HW_.out (by kernel_rfl)) (fun _ _ _ h => h) (Or.inl ⟨by rfl, ?_⟩) hHeld ?_ ?_
 rotate_left
 ·rintro w' s0; have f1 : w'.cell? ⟨gb, 1, none⟩ = some (.slice none 0 0) := (blk_cell s0 1).trans rfl; have f0 : w'.cell? ⟨gb, 0, none⟩ = some (.int .i64 0) := (blk_cell s0 0).trans rfl
  go_simp
  with_reducible rfl
 rotate_left
 ·simp only [Act.put, List.setIfInBounds_toArray, List.set_cons_zero, List.set_cons_succ, i64_w, i32_w]
  rfl
 refine one_ (i := 8) (N := (some 13)) #[true, true, true, true, true, true, true, true, true, true, true, false, false, false, false, false, false, false, false, false, false] rfl rfl (one_of HT_.out (by kernel_rfl)) (by decide) (fun K hK => ?_)
 refine goes_ Try.func40 (by kernel_rfl) rfl #[.pointer none] (by rfl) rfl rfl (by (try simp only [List.map_toArray, List.map_cons, List.map_nil]); first | done | rfl) ?_
 refine (room_nilB _).mono ?_
 rintro e w2 ⟨rfl, hb2⟩
 refine ⟨_, rfl, ?_⟩
 have hS2 : (fun w' => w'.heap[gb]? = some (.cells #[.int .i64 0, .slice none 0 0] 52 (0, 0))) w2 := blk_below hS1 hb2
 have HB2 := Aside0.mk (HB1.out.trans (hb2.mono HB1.out.size))
 clear hb2
 refine hK.out _ _ (hS2) (fun hHeld => ?_)
 clear hK K
 refine norm_ (a' := ?_) ?_ ?_
 rotate_left
 ·show Act.put _ (some 13) _ = _
  simp only [Act.put, List.setIfInBounds_toArray, List.set_cons_zero, List.set_cons_succ, i64_w, i32_w]
  rfl
 refine pureS (i := 11) (N := (some 16)) #[true, true, true, true, true, true, true, true, true, true, true, true, false, false, false, false, false, false, false, false, false] HT_ ?_
 refine pureS (i := 12) (N := (some 17)) #[true, true, true, true, true, true, true, true, true, true, true, true, true, false, false, false, false, false, false, false, false] HT_ ?_
 refine pureS (i := 13) (N := (some 18)) #[true, true, true, true, true, true, true, true, true, true, true, true, true, true, false, false, false, false, false, false, false] HT_ ?_
 refine pureS (i := 14) (N := (some 19)) #[true, true, true, true, true, true, true, true, true, true, true, true, true, true, true, false, false, false, false, false, false] HT_ ?_
 refine pureS (i := 16) (N := (some 21)) #[true, true, true, true, true, true, true, true, true, true, true, true, true, true, true, false, true, false, false, false, false] HT_ ?_
 refine take_ (i := 17) (N := (some 22)) (v := ?_) (a' := ?_) #[true, true, true, true, true, true, true, true, true, true, true, true, true, true, true, false, true, true, false, false, false] rfl rfl (take_ofW HT_.out HW_.out (by kernel_rfl)) (fun _ _ _ h => h) (Or.inl ⟨by rfl, ?_⟩) hHeld ?_ ?_
 rotate_left
 ·rintro w' s0; have f1 : w'.cell? ⟨gb, 1, none⟩ = some (.slice none 0 0) := (blk_cell s0 1).trans rfl; have f0 : w'.cell? ⟨gb, 0, none⟩ = some (.int .i64 0) := (blk_cell s0 0).trans rfl
  go_simp
  with_reducible rfl
 rotate_left
 ·simp only [Act.put, List.setIfInBounds_toArray, List.set_cons_zero, List.set_cons_succ, i64_w, i32_w]
  rfl
 refine one_ (i := 15) (N := (some 20)) #[true, true, true, true, true, true, true, true, true, true, true, true, true, true, true, true, true, true, false, false, false] rfl rfl (one_of HT_.out (by kernel_rfl)) (by decide) (fun K hK => ?_)
 refine goes_ Try.func22 (by kernel_rfl) rfl #[.pointer none] (by rfl) rfl rfl (by (try simp only [List.map_toArray, List.map_cons, List.map_nil]); first | done | rfl) ?_
 refine (held_nilB _).mono ?_
 rintro e w3 ⟨rfl, hb3⟩
 refine ⟨_, rfl, ?_⟩
 have hS3 : (fun w' => w'.heap[gb]? = some (.cells #[.int .i64 0, .slice none 0 0] 52 (0, 0))) w3 := blk_below hS2 hb3
 have HB3 := Aside0.mk (HB2.out.trans (hb3.mono HB2.out.size))
 clear hb3
 refine hK.out _ _ (hS3) (fun hHeld => ?_)
 clear hK K
 refine norm_ (a' := ?_) ?_ ?_
 rotate_left
 ·show Act.put _ (some 20) _ = _
  simp only [Act.put, List.setIfInBounds_toArray, List.set_cons_zero, List.set_cons_succ, i64_w, i32_w]
  rfl
 refine one_ (i := 18) (N := (some 23)) #[true, true, true, true, true, true, true, true, true, true, true, true, true, true, true, true, true, true, true, false, false] rfl rfl (one_of HT_.out (by kernel_rfl)) (by decide) (fun K hK => ?_)
 refine goes_ Try.func15 (by kernel_rfl) rfl #[.slice none 0 0, .slice none 0 0] (by rfl) rfl rfl (by (try simp only [List.map_toArray, List.map_cons, List.map_nil]); first | done | rfl) ?_
 refine (sameAll_self none 0 none 0 [] (Kd.C_nil _ _) (Nat.le_refl _) (Kd.C_nil _ _) (Nat.le_refl _) (fun _ h => absurd h (List.not_mem_nil)) (by decide)).mono ?_
 rintro e w4 ⟨rfl, hb4⟩
 refine ⟨_, rfl, ?_⟩
 have hS4 : (fun w' => w'.heap[gb]? = some (.cells #[.int .i64 0, .slice none 0 0] 52 (0, 0))) w4 := blk_below hS3 hb4
 have HB4 := Aside0.mk (HB3.out.trans (hb4.mono HB3.out.size))
 clear hb4
 refine hK.out _ _ (hS4) (fun hHeld => ?_)
 clear hK K
 refine norm_ (a' := ?_) ?_ ?_
 rotate_left
 ·show Act.put _ (some 23) _ = _
  simp only [Act.put, List.setIfInBounds_toArray, List.set_cons_zero, List.set_cons_succ, i64_w, i32_w]
  rfl
 refine pureS (i := 19) (N := (some 24)) #[true, true, true, true, true, true, true, true, true, true, true, true, true, true, true, true, true, true, true, true, false] HT_ ?_
 refine pureS (i := 20) (N := (some 4)) #[true, true, true, true, true, true, true, true, true, true, true, true, true, true, true, true, true, true, true, true, true] HT_ ?_
 refine done_ (done_of HT_.out (by kernel_rfl)) ?_
 go_wp2_with (fail)
 go_ret
 exact ⟨rfl, HB4.out⟩
set_option maxHeartbeats 8000000 in
set_option maxRecDepth 100000 in
theorem nil_law_calls (w : World) (A0 : Option Addr) (c0 : Nat) (known : List Int) (hk : Kd.C (Kd.int .i64) w A0 known.length known) (hkc : known.length ≤ c0) (x : S32) (A3 : Option Addr) (c3 : Nat) (hx : Kd.C (Kd.int .i64) w A3 x.f2.length x.f2) (hx3 : x.f2.length ≤ c3) (hs : x.f7.size < 4611686018427387904) :
  Calls Try.prog 9 #[.slice A0 known.length c0, (.agg #[.int .i64 x.f0.f0, .int .i64 x.f0.f1, .int .i64 x.f1, (.slice A3 x.f2.length c3), .int .i64 x.f3, .int .i64 x.f4.f0, .int .i64 x.f4.f1, .int .i64 x.f5.f0, .int .i64 x.f5.f1, .int .i64 x.f6.f0, .int .i64 x.f6.f1, .string x.f7, .string x.f8])] w fun e w' => e = .returned (.bool true) ∧ Below w.heap.size w w' := by
 have HK := Aside0.mk hk
 have HKC := Aside0.mk hkc
 have HC3 := Aside0.mk hx
 have HL3 := Aside0.mk hx3
 have HSZ := Aside0.mk hs
 have HNT := Aside0.mk (take_nil_out known x)
 clear hk hkc hx hx3 hs
 obtain ⟨⟨Lr, out, er⟩, hr⟩ : ∃ r, takeF 0 [] known x = r := ⟨_, rfl⟩
 rw [hr] at HNT
 have HTF := Aside0.mk hr
 clear hr
 have e1 : (er == er) = true := by rw [beq_iff_eq]
 go_enter Try.func9, Try.ntmps9
 go_wp2_with (first | ((with_reducible refine gate_dst (N := 3) rfl ?_); refine box_event ?hg (N := 3) ?hd (cs := #[.int .i64 x.f0.f0, .int .i64 x.f0.f1, .int .i64 x.f1, (.slice A3 x.f2.length c3), .int .i64 x.f3, .int .i64 x.f4.f0, .int .i64 x.f4.f1, .int .i64 x.f5.f0, .int .i64 x.f5.f1, .int .i64 x.f6.f0, .int .i64 x.f6.f1, .string x.f7, .string x.f8]) (t := 32) ?hr ?_; (case hd => rfl); (case hg => rfl); (case hr => first | (go_simp; done) | (go_simp; rfl)); intro gb hr_ w0 hbox hb; have HXgb := Aside0.mk hbox; have HBgb := Aside0.mk hb; have HNgb := Aside0.mk (Nat.le_of_eq hr_.symm); clear hbox hb hr_) | ((with_reducible refine gate_dst (N := 14) rfl ?_); refine load32_ev rfl (N := 14) rfl x (.slice A3 x.f2.length c3) (p := .tmp 3) rfl (ad := ⟨gb, 0, none⟩) rfl (blk_cells HXgb.out) ?_) | (go_at_call 23; refine (rtake_nil A0 c0 known (Kd.C_below HK.out HBgb.out) HKC.out x A3 c3 (Kd.C_below HC3.out HBgb.out) HL3.out HSZ.out).mono ?_; rw [HTF.out]; intro e w1 ht_; obtain ⟨v1, A2, c2, rfl, hone, hl2, hc2, hb1⟩ := ht_; have HONE := Aside0.mk hone; have HV2 := Aside0.mk hc2; have HL2 := Aside0.mk hl2; have HB1 := Aside0.mk (HBgb.out.trans (hb1.mono HBgb.out.size)); have HX1 := Aside0.mk (blk_below HXgb.out hb1); clear hb1 hone hl2 hc2) | ((with_reducible refine gate_dst (N := 6) rfl ?_); refine box_event ?hg (N := 6) ?hd (cs := #[.int .i64 0, .slice none 0 0]) (t := 52) ?hr ?_; (case hd => rfl); (case hg => rfl); (case hr => first | (go_simp; done) | (go_simp; rfl)); intro ga hr_ wa hbox hb; have HXa := Aside0.mk hbox; have HBa := Aside0.mk hb; have HNa := Aside0.mk (Nat.le_of_eq hr_.symm); clear hbox hb hr_) | ((with_reducible refine gate_store (t := 52) (p := 6) (v := .tmp 16) rfl ?_); refine store52_ev rfl rfl 0 v1 (p := .tmp 6) (q := .tmp 16) rfl (g := ga) rfl rfl HONE.out HXa.out rfl ?_; intro ws hb_ hg_; have HBq := Aside0.mk (HBa.out.grown hg_ HBa.out.size (fun k hk => by injection hk with hk; rw [← hk]; exact HNa.out)); have HBs := Aside0.mk (HB1.out.trans (HBq.out.mono HB1.out.size)); have HXs := Aside0.mk (blk_below HX1.out HBq.out); have HV2s := Aside0.mk (Kd.C_below HV2.out HBq.out); clear hb_ hg_) | ((with_reducible refine gate_dst (N := 22) rfl ?_); refine load32_ev rfl (N := 22) rfl x (.slice A3 x.f2.length c3) (p := .tmp 3) rfl (ad := ⟨gb, 0, none⟩) rfl (blk_cells HXs.out) ?_) | (go_at_call 13; refine (take13_nil (Nat.le_refl _) A0 c0 known (Kd.C_below HK.out HBs.out) HKC.out x A3 c3 (Kd.C_below HC3.out HBs.out) HL3.out HSZ.out).mono ?_; rw [HTF.out]; intro e w2 ht_; obtain ⟨O, v9, rfl, hs9, ho9, hb2⟩ := ht_; obtain ⟨A9, c9, rfl⟩ := Kd.S_slice hs9; have HS9 := Aside0.mk (Kd.S_reads' hs9); have HB2 := Aside0.mk (HBs.out.trans (hb2.mono HBs.out.size)); have HV3 := Aside0.mk (Kd.C_below HV2s.out hb2); clear hs9 ho9 hb2) | (go_at_call 15; refine (sameAll_self A9 c9 A2 c2 out HS9.out.2.2 HS9.out.2.1 HV3.out HL2.out HNT.out.1 HNT.out.2).mono ?_; rintro e w3 ⟨rfl, hb3⟩; have HB3 := Aside0.mk (HB2.out.trans (hb3.mono HB2.out.size)); clear hb3) | (go_at_call 30; refine (told_nil _).mono ?_; rintro e w4 ⟨rfl, hb4⟩; have HB4 := Aside0.mk (HB3.out.trans (hb4.mono HB3.out.size)); clear hb4) | (go_at_call 26; refine (stale_nil _ _).mono ?_; rintro e w5 ⟨rfl, hb5⟩; have HB5 := Aside0.mk (HB4.out.trans (hb5.mono HB4.out.size)); clear hb5) | (go_at_call 27; refine (clone_nil _).mono ?_; rintro e w6 ⟨rfl, hb6⟩; have HB6 := Aside0.mk (HB5.out.trans (hb6.mono HB5.out.size)); clear hb6) | (go_at_call 17; refine (awake_calls _).mono ?_; rintro e w7 ⟨rfl, hb7⟩; have HB7 := Aside0.mk (HB6.out.trans (hb7.mono HB6.out.size)); clear hb7))
 go_ret
 exact ⟨rfl, HB7.out⟩
end Go.Proofs.Ytnopjjilpgekfaa.PCa
