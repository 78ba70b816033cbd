/- What is done to one link changes no other one: a net, and the document's, in the midst of a law. -/
import Derived.Test.YtchepjbdaojidaaMBagsPl
import Derived.Lib.SlBytesConst
import Derived.Deep.DeepCutAuto
import Derived.Deep.CutBlock
namespace Go.Proofs.Ytchepjbdaojidaa.PBags
open Go.RowKit Go.Proofs.YtchepjbdaojidaaW.PrintWords Go.Proofs.YtchepjbdaojidaaW.PrintLast Go.Proofs.YtchepjbdaojidaaW.PrintMore
attribute [local go_sem] max2_int min2_int max_two min_two max_three min_three max_four min_four
set_option linter.unusedVariables false
set_option linter.unusedSimpArgs false
def tolda.T2 : Bool × List (List Nat × List Nat) := (true, [([], []), ([0], [0]), ([], []), ([2], [2]), ([1, 3], [1, 3]), ([4, 1], [4]), ([5], [5]), ([6, 5, 5], [5, 6]), ([5], [5]), ([8, 5], [5, 8]), ([9, 5], [5, 9]), ([7, 10, 5], [5, 7, 10]), ([5, 11], [5, 11])])
def tolda.B2 : List Nat := [0, 1, 0, 4, 15, 31, 63, 127, 63, 319, 831, 2047, 4095]
theorem tolda.tab2 : rtab .any (opsOf Try.f27 2) = tolda.T2 := by kernel_rfl
theorem tolda.bits2 : waitsOk tolda.T2.2 tolda.B2 = true := by kernel_rfl
def toldb.T8 : Bool × List (List Nat × List Nat) := (true, [([], []), ([], []), ([1], [1]), ([], []), ([3], [3]), ([0, 2, 4], [0, 2, 4]), ([], []), ([6], [6]), ([5, 7], [5, 7])])
def toldb.B8 : List Nat := [0, 0, 2, 0, 8, 31, 0, 64, 255]
theorem toldb.tab8 : rtab .any (opsOf Try.f27 8) = toldb.T8 := by kernel_rfl
theorem toldb.bits8 : waitsOk toldb.T8.2 toldb.B8 = true := by kernel_rfl
theorem ways_mem {n : Nat} {bs : List (List Frame)} : ∀ (m : Nat) (s : S55), s ∈ waysL n bs m → ∃ k, k < m ∧ s = ⟨((k / n : Nat) : Int), ((k % n : Nat) : Int), ((bs.getD k []).length : Int)⟩ ∧ (bs.getD k []).length ≠ 0
  | 0, s, h => by cases h
  | m + 1, s, h => by
    unfold waysL at h
    rcases List.mem_append.1 h with h | h
    · obtain ⟨k, hk, h2⟩ := ways_mem m s h
      exact ⟨k, Nat.lt_succ_of_lt hk, h2⟩
    · unfold wayAt at h
      split at h
      · cases h
      · rename_i hz
        exact ⟨m, Nat.lt_succ_self _, List.mem_singleton.1 h, hz⟩
theorem frame_in {n : Nat} {bs : List (List Frame)} {a b : Int} {k : Nat} (h : linkF n a b = 0) (hk : k < (bs.getD (key n a b) []).length) : frameF n bs a b (k : Int) = 0 := by
  unfold frameF
  rw [if_pos h, if_neg (by omega)]
theorem way_link {n : Nat} {bs : List (List Frame)} {ys : List S45} (T : Tie n bs ys) {s : S55} (h : s ∈ waysL n bs (n * n)) : linkF n s.f0 s.f1 = 0 ∧ s.f2 = ((bs.getD (key n s.f0 s.f1) []).length : Int) := by
  obtain ⟨k, hk, rfl, hz⟩ := ways_mem _ s h
  have hn : 0 < n := by cases n with
    | zero => simp at hk
    | succ n => omega
  have hi : k / n < n := Nat.div_lt_of_lt_mul hk
  have hj : k % n < n := Nat.mod_lt _ hn
  have e : k / n * n + k % n = k := by rw [Nat.mul_comm]; exact Nat.div_add_mod k n
  have hne : k / n ≠ k % n := by
    intro he
    refine hz ?_
    rw [tie_key T hk, List.length_eq_zero_iff, List.filter_eq_nil_iff]
    intro s hs hd
    obtain ⟨c, d, e1, e2, hc, hd2, hcd⟩ := linkF_ok (T.ok s hs)
    have hk2 : key n s.f0 s.f1 = k := by simpa using hd
    rw [e1, e2, key_nat, ← e] at hk2
    have := key_inj hd2 hj hk2
    omega
  show linkF n ((k / n : Nat) : Int) ((k % n : Nat) : Int) = 0 ∧ ((bs.getD k []).length : Int) = ((bs.getD (key n ((k / n : Nat) : Int) ((k % n : Nat) : Int)) []).length : Int)
  rw [key_nat, e]
  refine ⟨?_, rfl⟩
  clear hz h T
  generalize k / n = i at *
  generalize k % n = j at *
  unfold linkF
  rw [if_neg (by omega), if_neg (by omega)]
set_option maxHeartbeats 8000000 in
set_option maxRecDepth 100000 in
theorem told_calls {w : World} {P Q : Nat → Prop} {g n : Nat} {bs : List (List Frame)} {ys : List S45} (hN : Net w P g n bs) (T : Tie n bs ys) (A : Option Addr) (c : Nat) (hV : Kd.V k45 45 w 0 Q (.slice A ys.length c) ys) :
    Calls Try.prog 27 #[.pointer (some ⟨g, 0, none⟩), .agg #[.int .i64 (n : Int), .slice A ys.length c]] w fun e w' => e = .returned (.bool true) ∧ Below w.heap.size w w' := by
  have hl : ys.length ≤ 1048576 := tie_small T hN.small hN.i.size.2.2
  obtain ⟨K, hK⟩ := ways_f T hN.i.size.2.2 hl
  obtain ⟨W0, hW0⟩ : ∃ W0, w.alloc (.cells #[.int .i64 (n : Int), .slice A ys.length c] 41) = W0 := ⟨_, rfl⟩
  have hB0 : Below w.heap.size w W0 := by rw [← hW0]; exact below_alloc (Below.refl _ _) _
  have hbx : W0.heap[w.heap.size]? = some (.cells #[.int .i64 (n : Int), .slice A ys.length c] 41 (0, 0)) := by rw [← hW0]; exact Mem.alloc_new _ _
  have hv0 := Kd.V_below hV hB0
  have HWY := Aside0.mk (topiaryref08_Ways.calls K (n : Int) A c ys (waysL n bs (n * n)) W0 (Kd.V_reads' hv0).2.2 (Kd.V_reads' hv0).2.1 hK)
  have HT := Aside0.mk T
  have HL := Aside0.mk hl
  have HB0 := Aside0.mk hB0
  have HV0 := Aside0.mk hv0
  have HN0 := Aside0.mk (hN.below hB0)
  have HBX := Aside0.mk hbx
  have p0 := Mem.cell_of hbx 0
  have p1 := Mem.cell_of hbx 1
  clear hN T hV hl hK hB0 hv0 hbx
  go_enter Try.func27, Try.ntmps27
  go_wp2_with (fail)
  clear hW0
  refine HWY.out.mono ?_
  rintro e w1 ⟨v1, rfl, hR1, hb1⟩
  obtain ⟨A1, c1, rfl⟩ := Kd.R_slice hR1
  have HR1 := Aside0.mk hR1
  have HB1 := Aside0.mk (HB0.out.trans (hb1.mono HB0.out.size))
  have HV1 := Aside0.mk (Kd.V_below HV0.out hb1)
  have HN1 := Aside0.mk (HN0.out.below hb1)
  have HBX1 := Aside0.mk ((hb1.block _ (blk_lt HBX.out)).trans HBX.out)
  clear hR1 hb1 p0 p1 HWY
  have p0 := Mem.cell_of HBX1.out 0
  have p1 := Mem.cell_of HBX1.out 1
  go_wp2_with (fail)
  have HS : Aside0 (w1.drew.cell? ⟨w.heap.size, 0, none⟩ = _ ∧ w1.drew.cell? ⟨w.heap.size, 1, none⟩ = _) := ⟨p0, p1⟩
  clear p0 p1
  refine start_ (n := 13) (S := (fun w' => w'.cell? ⟨w.heap.size, 0, none⟩ = some (.int .i64 (n : Int)) ∧ w'.cell? ⟨w.heap.size, 1, none⟩ = some (.slice A ys.length c))) (ds := []) #[false, false, false, false, false, false, false, false, false, false, false, false, false] (by kernel_rfl) rfl rfl (HS.out) (fun hHeld => ?_)
  refine with_tabW tolda.tab2 tolda.bits2 (fun HT_ HW_ => ?_)
  refine pure_ (i := 0) (N := (some 15)) (v := ?_) (a' := ?_) #[true, false, false, false, false, false, false, false, false, false, false, false, false] rfl rfl (any_of HT_.out (by kernel_rfl)) (fun _ _ _ h => h) (Or.inl ⟨by rfl, ?_⟩) ?_ ?_
  rotate_left
  · intro w'
    go_simp
    with_reducible rfl
  rotate_left
  · simp only [Act.put, List.setIfInBounds_toArray, List.set_cons_zero, List.set_cons_succ, i64_w, i32_w]
    rfl
  refine pure_ (i := 2) (N := (some 17)) (v := ?_) (a' := ?_) #[true, false, true, false, false, false, false, false, false, false, false, false, false] rfl rfl (any_of HT_.out (by kernel_rfl)) (fun _ _ _ h => h) (Or.inl ⟨by rfl, ?_⟩) ?_ ?_
  rotate_left
  · intro w'
    go_simp
    with_reducible rfl
  rotate_left
  · simp only [Act.put, List.setIfInBounds_toArray, List.set_cons_zero, List.set_cons_succ, i64_w, i32_w]
    rfl
  refine take_ (i := 3) (N := (some 18)) (v := ?_) (a' := ?_) #[true, false, true, true, false, false, false, false, false, false, false, false, false] rfl rfl (take_ofW HT_.out HW_.out (by kernel_rfl)) (fun _ _ _ h => h) (Or.inl ⟨by rfl, ?_⟩) hHeld ?_ ?_
  rotate_left
  · rintro w' ⟨s0, s1⟩
    go_simp
    with_reducible rfl
  rotate_left
  · simp only [Act.put, List.setIfInBounds_toArray, List.set_cons_zero, List.set_cons_succ, i64_w, i32_w]
    rfl
  refine one_ (i := 1) (N := (some 16)) #[true, true, true, true, false, false, false, false, false, false, false, false, false] rfl rfl (one_of HT_.out (by kernel_rfl)) (by decide) (fun K hK => ?_)
  refine goes_ Try.func28 (by kernel_rfl) rfl #[.pointer (some ⟨g, 0, none⟩)] (by rfl) rfl rfl (by (try simp only [List.map_toArray, List.map_cons, List.map_nil]); first | done | rfl) ?_
  refine (size_calls w1.drew g n HN1.out.i.size.1).mono ?_
  rintro e w5 ⟨rfl, rfl⟩
  refine ⟨_, rfl, ?_⟩
  refine hK.out _ _ (HS.out) (fun hHeld => ?_)
  clear hK K
  refine norm_ (a' := ?_) ?_ ?_
  rotate_left
  · show Act.put _ (some 16) _ = _
    simp only [Act.put, List.setIfInBounds_toArray, List.set_cons_zero, List.set_cons_succ, i64_w, i32_w]
    rfl
  refine pure_ (i := 4) (N := (some 19)) (v := ?_) (a' := ?_) #[true, true, true, true, true, false, false, false, false, false, false, false, false] rfl rfl (any_of HT_.out (by kernel_rfl)) (fun _ _ _ h => h) (Or.inl ⟨by rfl, ?_⟩) ?_ ?_
  rotate_left
  · intro w'
    go_simp
    with_reducible rfl
  rotate_left
  · simp only [Act.put, List.setIfInBounds_toArray, List.set_cons_zero, List.set_cons_succ, i64_w, i32_w]
    rfl
  refine pure_ (i := 5) (N := (some 20)) (v := ?_) (a' := ?_) #[true, true, true, true, true, true, false, false, false, false, false, false, false] rfl rfl (any_of HT_.out (by kernel_rfl)) (fun _ _ _ h => h) (Or.inl ⟨by rfl, ?_⟩) ?_ ?_
  rotate_left
  · intro w'
    go_simp
    with_reducible rfl
  rotate_left
  · simp only [Act.put, List.setIfInBounds_toArray, List.set_cons_zero, List.set_cons_succ, i64_w, i32_w]
    rfl
  refine pure_ (i := 6) (N := (some 21)) (v := ?_) (a' := ?_) #[true, true, true, true, true, true, true, false, false, false, false, false, false] rfl rfl (any_of HT_.out (by kernel_rfl)) (fun _ _ _ h => h) (Or.inl ⟨by rfl, ?_⟩) ?_ ?_
  rotate_left
  · intro w'
    go_simp
    with_reducible rfl
  rotate_left
  · simp only [Act.put, List.setIfInBounds_toArray, List.set_cons_zero, List.set_cons_succ, i64_w, i32_w]
    rfl
  refine pure_ (i := 8) (N := (some 23)) (v := ?_) (a' := ?_) #[true, true, true, true, true, true, true, false, true, false, false, false, false] rfl rfl (any_of HT_.out (by kernel_rfl)) (fun _ _ _ h => h) (Or.inl ⟨by rfl, ?_⟩) ?_ ?_
  rotate_left
  · intro w'
    go_simp
    with_reducible rfl
  rotate_left
  · simp only [Act.put, List.setIfInBounds_toArray, List.set_cons_zero, List.set_cons_succ, i64_w, i32_w]
    rfl
  refine take_ (i := 9) (N := (some 24)) (v := ?_) (a' := ?_) #[true, true, true, true, true, true, true, false, true, true, false, false, false] rfl rfl (take_ofW HT_.out HW_.out (by kernel_rfl)) (fun _ _ _ h => h) (Or.inl ⟨by rfl, ?_⟩) hHeld ?_ ?_
  rotate_left
  · rintro w' ⟨s0, s1⟩
    go_simp
    with_reducible rfl
  rotate_left
  · simp only [Act.put, List.setIfInBounds_toArray, List.set_cons_zero, List.set_cons_succ, i64_w, i32_w]
    rfl
  refine pure_ (i := 10) (N := (some 25)) (v := ?_) (a' := ?_) #[true, true, true, true, true, true, true, false, true, true, true, false, false] rfl rfl (any_of HT_.out (by kernel_rfl)) (fun _ _ _ h => h) (Or.inl ⟨by rfl, ?_⟩) ?_ ?_
  rotate_left
  · intro w'
    go_simp
    with_reducible rfl
  rotate_left
  · simp only [Act.put, List.setIfInBounds_toArray, List.set_cons_zero, List.set_cons_succ, i64_w, i32_w]
    rfl
  refine one_ (i := 7) (N := (some 22)) #[true, true, true, true, true, true, true, true, true, true, true, false, false] rfl rfl (one_of HT_.out (by kernel_rfl)) (by decide) (fun K hK => ?_)
  refine goes_ Try.func12 (by kernel_rfl) rfl #[.pointer (some ⟨g, 0, none⟩)] (by rfl) rfl rfl (by (try simp only [List.map_toArray, List.map_cons, List.map_nil]); first | done | rfl) ?_
  refine ((HN1.out.below (below_drew (Below.refl _ _))).len).mono ?_
  rintro e w5 ⟨rfl, hb5⟩
  refine ⟨_, rfl, ?_⟩
  have hbx5 := (hb5.block w.heap.size (blk_lt HBX1.out)).trans HBX1.out
  have HBX5 := Aside0.mk hbx5
  have HB5 := Aside0.mk ((below_drew1 HB1.out).trans (hb5.mono HB1.out.size))
  have HN5 := Aside0.mk ((HN1.out.below (below_drew (Below.refl _ _))).below hb5)
  have HV5 := Aside0.mk (Kd.V_below (Kd.V_drew HV1.out) hb5)
  have HR5 := Aside0.mk (Kd.R_below (Kd.R_drew HR1.out) hb5)
  clear hb5 hbx5
  rw [tie_len HT.out]
  refine hK.out _ _ (⟨Mem.cell_of HBX5.out 0, Mem.cell_of HBX5.out 1⟩) (fun hHeld => ?_)
  clear hK K
  refine norm_ (a' := ?_) ?_ ?_
  rotate_left
  · show Act.put _ (some 22) _ = _
    simp only [Act.put, List.setIfInBounds_toArray, List.set_cons_zero, List.set_cons_succ, i64_w, i32_w]
    rfl
  refine pure_ (i := 11) (N := (some 26)) (v := ?_) (a' := ?_) #[true, true, true, true, true, true, true, true, true, true, true, true, false] rfl rfl (any_of HT_.out (by kernel_rfl)) (fun _ _ _ h => h) (Or.inl ⟨by rfl, ?_⟩) ?_ ?_
  rotate_left
  · intro w'
    go_simp
    with_reducible rfl
  rotate_left
  · simp only [Act.put, List.setIfInBounds_toArray, List.set_cons_zero, List.set_cons_succ, i64_w, i32_w]
    rfl
  refine pure_ (i := 12) (N := (some 27)) (v := ?_) (a' := ?_) #[true, true, true, true, true, true, true, true, true, true, true, true, true] rfl rfl (any_of HT_.out (by kernel_rfl)) (fun _ _ _ h => h) (Or.inl ⟨by rfl, ?_⟩) ?_ ?_
  rotate_left
  · intro w'
    go_simp
    with_reducible rfl
  rotate_left
  · simp only [Act.put, List.setIfInBounds_toArray, List.set_cons_zero, List.set_cons_succ, i64_w, i32_w]
    rfl
  refine done_ (done_of HT_.out (by kernel_rfl)) ?_
  go_wp2_with (fail)
  have hwm : ∀ s ∈ waysL n bs (n * n), linkF n s.f0 s.f1 = 0 ∧ s.f2 = ((bs.getD (key n s.f0 s.f1) []).length : Int) := fun s hs => way_link HT.out hs
  have HWM := Aside0.mk hwm
  have hwl : (waysL n bs (n * n)).length ≤ 4096 := Nat.le_trans (ways_length _ _ _) (Nat.le_trans (Nat.mul_le_mul HN5.out.i.size.2.2 HN5.out.i.size.2.2) (by decide))
  have HWL := Aside0.mk hwl
  clear hwm hwl HN1 HV1 HR1 HBX1 HB1 HS
  generalize waysL n bs (n * n) = ws at *
  go_loopw [6] (fun v wo => ∃ i : Nat, v = .int .i64 (i : Int) ∧ i ≤ ws.length ∧ Aside0 (Below w5.heap.size w5 wo)) (fun v _ => ws.length - (intOf v).toNat)
  case atStart => exact ⟨0, rfl, Nat.zero_le _, ⟨Below.refl _ _⟩⟩
  case round =>
    rename World => wo
    obtain ⟨i, rfl, hil, HBW⟩ := hrel
    by_cases hlt : i < ws.length
    · have HRW := Aside0.mk (Kd.R_below HR5.out HBW.out)
      obtain ⟨gw, cap, he, _, _, _⟩ := Kd.R_form HRW.out (Nat.lt_of_le_of_lt (Nat.zero_le _) hlt)
      injection he with he1 he2 he3
      subst he1
      clear he2 he3
      obtain ⟨ad, e, g0, g1, g2⟩ := at_T55 (Kd.R_reads' HRW.out).2.2 (i : Int) (Int.natCast_nonneg _) (Int.ofNat_lt.2 hlt)
      obtain rfl : (⟨gw, 0, none⟩ : Addr) = ad := by injection e
      rw [Int.toNat_natCast, add_at, Nat.zero_add] at g0 g1 g2
      have hsm := HWM.out (rd_T55 ws (i : Int)) (by unfold rd_T55; rw [Int.toNat_natCast, List.getD_eq_getElem?_getD, List.getElem?_eq_getElem hlt]; exact List.getElem_mem hlt)
      generalize rd_T55 ws (i : Int) = s at *
      obtain ⟨sa, sb, sl⟩ := s
      obtain ⟨hlk, hsl⟩ := hsm
      dsimp only at g0 g1 g2 hlk hsl
      subst hsl
      have HLK := Aside0.mk hlk
      have HBX6 := Aside0.mk ((HBW.out.block w.heap.size (blk_lt HBX5.out)).trans HBX5.out)
      have HN6 := Aside0.mk (HN5.out.below HBW.out)
      have HV6 := Aside0.mk (Kd.V_below HV5.out HBW.out)
      have hwt : waitF n bs sa sb = (bs.getD (key n sa sb) []).length := by unfold waitF; rw [if_pos hlk]
      have HWT := Aside0.mk hwt
      have hsml := (HN5.out.small (key n sa sb)).1
      have HSML := Aside0.mk hsml
      obtain ⟨len, hlen⟩ : ∃ len, (bs.getD (key n sa sb) []).length = len := ⟨_, rfl⟩
      rw [hlen] at g2 HWT HSML
      have HLEN := Aside0.mk hlen
      have b1 : (0 ≤ (i : Int)) = True := eq_true (Int.natCast_nonneg _)
      have b2 : ((i : Int) < (ws.length : Int)) = True := eq_true (Int.ofNat_lt.2 hlt)
      have b3 : (i < ws.length) = True := eq_true hlt
      have hw3 := wrap_next (m := i) (Nat.le_trans (Nat.le_of_lt hlt) (Nat.le_trans HWL.out (by decide)))
      have HIL := Aside0.mk hlt
      clear hlk hwt hsml hlen hlt hil e
      go_wp2_with (fail)
      have hbz : (wo.alloc (.cells #[.int .i64 sa, .int .i64 sb, .int .i64 (len : Int)] 55)).drew.heap[wo.heap.size]? = some (.cells #[.int .i64 sa, .int .i64 sb, .int .i64 (len : Int)] 55 (0, 0)) := Mem.alloc_new _ _
      have HBZ := Aside0.mk hbz
      have HBA := Aside0.mk (below_drew1 (below_alloc (Below.refl wo.heap.size wo) (.cells #[.int .i64 sa, .int .i64 sb, .int .i64 (len : Int)] 55)))
      clear hbz g0 g1 g2
      have HS : Aside0 ((wo.alloc (.cells #[.int .i64 sa, .int .i64 sb, .int .i64 (len : Int)] 55)).drew.cell? ⟨wo.heap.size, 0, none⟩ = _ ∧ (wo.alloc (.cells #[.int .i64 sa, .int .i64 sb, .int .i64 (len : Int)] 55)).drew.cell? ⟨wo.heap.size, 1, none⟩ = _ ∧ (wo.alloc (.cells #[.int .i64 sa, .int .i64 sb, .int .i64 (len : Int)] 55)).drew.cell? ⟨wo.heap.size, 2, none⟩ = _) := ⟨Mem.cell_of HBZ.out 0, Mem.cell_of HBZ.out 1, Mem.cell_of HBZ.out 2⟩
      refine start_ (n := 9) (S := (fun w' => w'.cell? ⟨wo.heap.size, 0, none⟩ = some (.int .i64 sa) ∧ w'.cell? ⟨wo.heap.size, 1, none⟩ = some (.int .i64 sb) ∧ w'.cell? ⟨wo.heap.size, 2, none⟩ = some (.int .i64 (len : Int)))) (ds := []) #[false, false, false, false, false, false, false, false, false] (by kernel_rfl) rfl rfl (HS.out) (fun hHeld => ?_)
      refine with_tabW toldb.tab8 toldb.bits8 (fun HT_ HW_ => ?_)
      refine pure_ (i := 0) (N := (some 38)) (v := ?_) (a' := ?_) #[true, false, false, false, false, false, false, false, false] rfl rfl (any_of HT_.out (by kernel_rfl)) (fun _ _ _ h => h) (Or.inl ⟨by rfl, ?_⟩) ?_ ?_
      rotate_left
      · intro w'
        go_simp
        with_reducible rfl
      rotate_left
      · simp only [Act.put, List.setIfInBounds_toArray, List.set_cons_zero, List.set_cons_succ, i64_w, i32_w]
        rfl
      refine pure_ (i := 1) (N := (some 39)) (v := ?_) (a' := ?_) #[true, true, false, false, false, false, false, false, false] rfl rfl (any_of HT_.out (by kernel_rfl)) (fun _ _ _ h => h) (Or.inl ⟨by rfl, ?_⟩) ?_ ?_
      rotate_left
      · intro w'
        go_simp
        with_reducible rfl
      rotate_left
      · simp only [Act.put, List.setIfInBounds_toArray, List.set_cons_zero, List.set_cons_succ, i64_w, i32_w]
        rfl
      refine pure_ (i := 3) (N := (some 41)) (v := ?_) (a' := ?_) #[true, true, false, true, false, false, false, false, false] rfl rfl (any_of HT_.out (by kernel_rfl)) (fun _ _ _ h => h) (Or.inl ⟨by rfl, ?_⟩) ?_ ?_
      rotate_left
      · intro w'
        go_simp
        with_reducible rfl
      rotate_left
      · simp only [Act.put, List.setIfInBounds_toArray, List.set_cons_zero, List.set_cons_succ, i64_w, i32_w]
        rfl
      refine pure_ (i := 6) (N := (some 44)) (v := ?_) (a' := ?_) #[true, true, false, true, false, false, true, false, false] rfl rfl (any_of HT_.out (by kernel_rfl)) (fun _ _ _ h => h) (Or.inl ⟨by rfl, ?_⟩) ?_ ?_
      rotate_left
      · intro w'
        go_simp
        with_reducible rfl
      rotate_left
      · simp only [Act.put, List.setIfInBounds_toArray, List.set_cons_zero, List.set_cons_succ, i64_w, i32_w]
        rfl
      refine take_ (i := 2) (N := (some 40)) (v := ?_) (a' := ?_) #[true, true, true, true, false, false, true, false, false] rfl rfl (take_ofW HT_.out HW_.out (by kernel_rfl)) (fun _ _ _ h => h) (Or.inl ⟨by rfl, ?_⟩) hHeld ?_ ?_
      rotate_left
      · rintro w' ⟨s0, s1, s2⟩
        go_simp
        with_reducible rfl
      rotate_left
      · simp only [Act.put, List.setIfInBounds_toArray, List.set_cons_zero, List.set_cons_succ, i64_w, i32_w]
        rfl
      refine take_ (i := 4) (N := (some 42)) (v := ?_) (a' := ?_) #[true, true, true, true, true, false, true, false, false] rfl rfl (take_ofW HT_.out HW_.out (by kernel_rfl)) (fun _ _ _ h => h) (Or.inl ⟨by rfl, ?_⟩) hHeld ?_ ?_
      rotate_left
      · rintro w' ⟨s0, s1, s2⟩
        go_simp
        with_reducible rfl
      rotate_left
      · simp only [Act.put, List.setIfInBounds_toArray, List.set_cons_zero, List.set_cons_succ, i64_w, i32_w]
        rfl
      refine take_ (i := 7) (N := (some 45)) (v := ?_) (a' := ?_) #[true, true, true, true, true, false, true, true, false] rfl rfl (take_ofW HT_.out HW_.out (by kernel_rfl)) (fun _ _ _ h => h) (Or.inl ⟨by rfl, ?_⟩) hHeld ?_ ?_
      rotate_left
      · rintro w' ⟨s0, s1, s2⟩
        go_simp
        with_reducible rfl
      rotate_left
      · simp only [Act.put, List.setIfInBounds_toArray, List.set_cons_zero, List.set_cons_succ, i64_w, i32_w]
        rfl
      refine one_ (i := 5) (N := (some 43)) #[true, true, true, true, true, true, true, true, false] rfl rfl (one_of HT_.out (by kernel_rfl)) (by decide) (fun K hK => ?_)
      refine goes_ Try.func15 (by kernel_rfl) rfl #[.pointer (some ⟨g, 0, none⟩), .int .i64 sa, .int .i64 sb] (by rfl) rfl rfl (by (try simp only [List.map_toArray, List.map_cons, List.map_nil]); first | done | rfl) ?_
      refine (wait_calls (HN6.out.below HBA.out).i sa sb).mono ?_
      rintro e w7 ⟨rfl, ⟨nd, rfl⟩⟩
      refine ⟨_, rfl, ?_⟩
      rw [HWT.out]
      refine hK.out _ _ (HS.out) (fun hHeld => ?_)
      clear hK K
      refine norm_ (a' := ?_) ?_ ?_
      rotate_left
      · show Act.put _ (some 43) _ = _
        simp only [Act.put, List.setIfInBounds_toArray, List.set_cons_zero, List.set_cons_succ, i64_w, i32_w]
        rfl
      refine pure_ (i := 8) (N := (some 46)) (v := ?_) (a' := ?_) #[true, true, true, true, true, true, true, true, true] rfl rfl (any_of HT_.out (by kernel_rfl)) (fun _ _ _ h => h) (Or.inl ⟨by rfl, ?_⟩) ?_ ?_
      rotate_left
      · intro w'
        go_simp
        with_reducible rfl
      rotate_left
      · simp only [Act.put, List.setIfInBounds_toArray, List.set_cons_zero, List.set_cons_succ, i64_w, i32_w]
        rfl
      refine done_ (done_of HT_.out (by kernel_rfl)) ?_
      go_wp2_with (fail)
      have hst : Below wo.heap.size wo (((wo.alloc (.cells #[.int .i64 sa, .int .i64 sb, .int .i64 (len : Int)] 55)).drew).drewN nd) := pw_below_drewN HBA.out nd
      have HST := Aside0.mk (And.intro hst (show ((((wo.alloc (.cells #[.int .i64 sa, .int .i64 sb, .int .i64 (len : Int)] 55)).drew).drewN nd).heap[wo.heap.size]? = some (.cells #[.int .i64 sa, .int .i64 sb, .int .i64 (len : Int)] 55 (0, 0))) from HBZ.out))
      clear hst HBA HBZ HS hHeld
      go_loopw [8] (fun v wq => ∃ k : Nat, v = .int .i64 (k : Int) ∧ k ≤ len ∧ Aside0 (Below wo.heap.size wo wq ∧ wq.heap[wo.heap.size]? = some (.cells #[.int .i64 sa, .int .i64 sb, .int .i64 (len : Int)] 55 (0, 0)))) (fun v _ => len - (intOf v).toNat)
      case atStart => exact ⟨0, rfl, Nat.zero_le _, HST⟩
      case round =>
        obtain ⟨k, rfl, hkl, HK⟩ := hrel
        clear HST
        have HBX7 := Aside0.mk ((HK.out.1.block w.heap.size (blk_lt HBX6.out)).trans HBX6.out)
        have y0 := Mem.cell_of HBX7.out 0
        have y1 := Mem.cell_of HBX7.out 1
        have c0 := Mem.cell_of HK.out.2 0
        have c1' := Mem.cell_of HK.out.2 1
        have c2 := Mem.cell_of HK.out.2 2
        by_cases hlt : k < len
        · have HN7 := Aside0.mk (HN6.out.below HK.out.1)
          have HV7 := Aside0.mk (Kd.V_below HV6.out HK.out.1)
          have hf : frameF n bs sa sb (k : Int) = 0 := frame_in HLK.out (by rw [HLEN.out]; exact hlt)
          have HPK := Aside0.mk (peek_calls HN7.out.i HN7.out.small sa sb (k : Int))
          have HPR : Aside0 (∀ W, Kd.V k45 45 W 0 Q (.slice A ys.length c) ys → Calls Try.prog 21 #[.agg #[.int .i64 (n : Int), .slice A ys.length c], .int .i64 sa, .int .i64 sb, .int .i64 (k : Int)] W fun e w' => ∃ v0, e = .returned (.tuple #[v0, .int .i64 (peekF n bs sa sb (k : Int)).2]) ∧ Kd.V (Kd.int .u8) 5 w' W.heap.size (fun q => Q q ∨ W.heap.size ≤ q) v0 (peekF n bs sa sb (k : Int)).1 ∧ Below W.heap.size W w') :=
            ⟨fun W hW => topiaryref08_Peek.calls (2 * ys.length + 2) (n : Int) Q A c ys sa sb (k : Int) _ _ W (V_base hW) (peek_f HT.out HL.out sa sb (k : Int) _ (Nat.le_refl _))⟩
          rw [peek_frame, hf] at HPK HPR
          generalize (peekF n bs sa sb (k : Int)).1 = l at *
          have b4 : (k < len) = True := eq_true hlt
          have b5 : ((k : Int) < (len : Int)) = True := eq_true (Int.ofNat_lt.2 hlt)
          have hw4 := wrap_next (m := k) (Nat.le_trans (Nat.le_of_lt hlt) (Nat.le_trans HSML.out (by decide)))
          have HKL := Aside0.mk hlt
          clear hf hlt hkl
          go_wp2_with (fail)
          refine HPK.out.mono ?_
          rintro e w7 ⟨v7, rfl, hr7, hb7⟩
          obtain ⟨A7, c7, rfl⟩ := Kd.R_slice hr7
          have HX7 := Aside0.mk (Kd.R_V (base' := 0) hr7)
          have HV8 := Aside0.mk (Kd.V_below HV7.out hb7)
          have HB7 := Aside0.mk hb7
          have HZ7 := Aside0.mk ((hb7.block wo.heap.size (blk_lt HK.out.2)).trans HK.out.2)
          have HBX8 := Aside0.mk ((hb7.block w.heap.size (blk_lt HBX7.out)).trans HBX7.out)
          clear hr7 hb7 HPK y0 y1 c0 c1' c2
          have y0 := Mem.cell_of HBX8.out 0
          have y1 := Mem.cell_of HBX8.out 1
          have c0 := Mem.cell_of HZ7.out 0
          have c1' := Mem.cell_of HZ7.out 1
          have c2 := Mem.cell_of HZ7.out 2
          go_wp2_with (fail)
          refine (HPR.out w7 HV8.out).mono ?_
          rintro e w8 ⟨v8, rfl, hv8, hb8⟩
          obtain ⟨A8, c8, rfl⟩ := Kd.V_slice hv8
          have cv1 := str_of (Kd.V_below HX7.out hb8)
          have cv2 := str_of (V_base hv8)
          have HZ8 := Aside0.mk ((hb8.block wo.heap.size (blk_lt HZ7.out)).trans HZ7.out)
          have HB8 := Aside0.mk (HB7.out.trans (hb8.mono HB7.out.size))
          clear hv8 hb8 HPR y0 y1 c0 c1' c2
          go_wp2
          go_roundw
          case rel => exact ⟨k + 1, by rw [hw4]; rfl, HKL.out, ⟨HK.out.1.trans (HB8.out.mono HK.out.1.size), HZ8.out⟩⟩
          case measure => rw [hw4]; exact Nat.sub_lt_sub_left HKL.out (Nat.lt_succ_self _)
        · have b4 : (k < len) = False := eq_false hlt
          clear hlt hkl
          go_wp2
          go_roundw
          case rel => exact ⟨i + 1, by rw [hw3]; rfl, HIL.out, ⟨HBW.out.trans (HK.out.1.mono HBW.out.size)⟩⟩
          case measure => rw [hw3]; exact Nat.sub_lt_sub_left HIL.out (Nat.lt_succ_self _)
    · have b3 : (i < ws.length) = False := eq_false hlt
      clear hlt hil
      go_wp2
      go_ret
      exact ⟨rfl, HB5.out.trans (HBW.out.mono HB5.out.size)⟩
end Go.Proofs.Ytchepjbdaojidaa.PBags
namespace Go.Proofs.Ytchepjbdaojidaa.PBags
open Go.RowKit Go.Proofs.YtchepjbdaojidaaW.PrintWords Go.Proofs.YtchepjbdaojidaaW.PrintLast Go.Proofs.YtchepjbdaojidaaW.PrintMore
attribute [local go_sem] max2_int min2_int max_two min_two max_three min_three max_four min_four
set_option linter.unusedVariables false
set_option linter.unusedSimpArgs false
theorem Net.clone {w : World} {P : Nat → Prop} {g n : Nat} {bs : List (List Frame)} (h : Net w P g n bs) :
    Calls Try.prog 26 #[.pointer (some ⟨g, 0, none⟩)] w fun e w' => ∃ g2 P2, e = .returned (.pointer (some ⟨g2, 0, none⟩)) ∧ Net w' P2 g2 n bs ∧ (∀ k, P2 k → w.heap.size ≤ k) ∧ Below w.heap.size w w' :=
  (clone_calls h.i h.small).mono fun e w' ⟨g2, he, h1, h2⟩ => ⟨g2, _, he, Net.of h1 h.small, fun k hk => hk.1, h2⟩
/-- A net of no blocks that were: what is told of it leaves all that was. -/
theorem Went.fresh {w w' : World} {P' : Nat → Prop} (h : Went w (fun _ => False) w' P') : (∀ k, P' k → w.heap.size ≤ k) ∧ Below w.heap.size w w' :=
  ⟨fun k hk => (h.new k hk).elim False.elim id, h.kept.to_below (fun _ h => h.elim)⟩
/-- A literal's bytes. -/
theorem const_C (w : World) (l : List Int) (fr : Nat × Nat) (hl : l.length ≤ 1000) : Kd.C (Kd.int .u8) (w.alloc (.cells (l.map (Value.int .u8)).toArray 5 fr)) (some ⟨w.heap.size, 0, none⟩) l.length l := by
  refine ⟨rfl, by omega, fun _ => ⟨_, rfl, fun j p hj => ⟨[.int .u8 p], rfl, rfl, fun i u hi => ?_⟩⟩⟩
  have h0 : i = 0 := by
    have := (List.getElem?_eq_some_iff.1 hi).1
    simpa using this
  subst h0
  have hu : Value.int .u8 p = u := Option.some.inj hi
  subst hu
  rw [add_at, Nat.zero_add]
  show (w.alloc _).cell? ⟨w.heap.size, j * 1 + 0, none⟩ = _
  rw [Mem.cell_of (Mem.alloc_new w _), Nat.mul_one, Nat.add_zero, List.getElem?_toArray, List.getElem?_map, hj]
  rfl
set_option maxHeartbeats 8000000 in
set_option maxRecDepth 100000 in
theorem awake_calls (w : World) : Calls Try.prog 13 #[] w fun e w' => e = .returned (.bool true) ∧ Below w.heap.size w w' := by
  have HNW := Aside0.mk (Net.new w 2 (by decide) (by decide))
  go_enter Try.func13, Try.ntmps13
  go_wp2_with (fail)
  refine HNW.out.mono ?_
  rintro e w1 ⟨g, P1, rfl, hN1, hW1⟩
  have HN1 := Aside0.mk hN1
  have HW1 := Aside0.mk hW1
  clear hN1 hW1 HNW
  have kc := fun (w : World) (C : Array Value) (n c : Nat) => Lib.run_convert_bytes_const (P := Try.prog) w 22 5 C n c Try.underlying22 Try.underlying5
  have HBL := Aside0.mk (below_alloc (Below.refl w1.heap.size w1) (.cells #[.int .u8 97] 5 (1, 2)))
  have HN2 := Aside0.mk (HN1.out.below HBL.out)
  have HCC := Aside0.mk (const_C w1 [97] (1, 2) (by decide))
  have HS1 := Aside0.mk (HN2.out.send 0 1 _ 1 [97] HCC.out (Nat.le_refl _))
  rw [show (putF 2 (List.replicate (2 * 2) []) 0 1 ([97], false)).1 = 0 from by decide] at HS1
  go_wp2_with (fail)
  refine HS1.out.mono ?_
  rintro e w3 ⟨P3, rfl, hN3, hW3⟩
  have HN3 := Aside0.mk hN3
  have HW3 := Aside0.mk hW3
  have HS2 := Aside0.mk (HN3.out.send 0 0 none 0 [] (Kd.V_reads' (Kd.V_nil (Kd.int .u8) 5 w3 0 (fun _ => True))).2.2 (Nat.le_refl _))
  rw [show (putF 2 (putF 2 (List.replicate (2 * 2) []) 0 1 ([97], false)).2 0 0 ([], false)).1 = 7 from by decide] at HS2
  clear hN3 hW3 HS1 kc
  go_wp2_with (fail)
  refine HS2.out.mono ?_
  rintro e w4 ⟨P4, rfl, hN4, hW4⟩
  have HN4 := Aside0.mk hN4
  have HW4 := Aside0.mk hW4
  have HS3 := Aside0.mk (wait_calls HN4.out.i 0 1)
  rw [show waitF 2 (putF 2 (putF 2 (List.replicate (2 * 2) []) 0 1 ([97], false)).2 0 0 ([], false)).2 0 1 = 1 from by decide] at HS3
  clear hN4 hW4 HS2
  go_wp2_with (fail)
  refine HS3.out.mono ?_
  rintro e w5 ⟨rfl, ⟨nd, rfl⟩⟩
  go_wp2
  go_ret
  exact ⟨rfl, ((((HW1.out.trans (Went.below HBL.out _)).trans HW3.out).trans HW4.out).kept.below (pw_below_drewN (Below.refl _ _) nd)).to_below (fun _ h => h.elim)⟩
end Go.Proofs.Ytchepjbdaojidaa.PBags
namespace Go.Proofs.Ytchepjbdaojidaa.PBags
open Go.RowKit Go.Proofs.YtchepjbdaojidaaW.PrintWords Go.Proofs.YtchepjbdaojidaaW.PrintLast Go.Proofs.YtchepjbdaojidaaW.PrintMore
set_option linter.unusedVariables false
/-- A call that comes in. -/
structure Cmd where
  kd : Int
  a : Int
  b : Int
  x : Int
  p : Int
  m : Int
  l : List Int
def zCmd : Cmd := ⟨0, 0, 0, 0, 0, 0, []⟩
abbrev kCmd0 : Kd (Int × Int × Int × Int × Int × Int × List Int) := Kd.pair (Kd.int .i64) (Kd.pair (Kd.int .i64) (Kd.pair (Kd.int .i64) (Kd.pair (Kd.int .i64) (Kd.pair (Kd.int .i64) (Kd.pair (Kd.int .i64) (Kd.slice 5 (Kd.int .u8)))))))
def Cmd.parts (x : Cmd) : Int × Int × Int × Int × Int × Int × List Int := (x.kd, x.a, x.b, x.x, x.p, x.m, x.l)
def kCmd : Kd Cmd := Kd.iso kCmd0 Cmd.parts
theorem kCmd_open {w : World} {x : Cmd} {cs : List Value} (h : kCmd.K w x cs) : ∃ A c, cs = [.int .i64 x.kd, .int .i64 x.a, .int .i64 x.b, .int .i64 x.x, .int .i64 x.p, .int .i64 x.m, .slice A x.l.length c] ∧ x.l.length ≤ c ∧ (Kd.int .u8).C w A x.l.length x.l := by
  obtain ⟨_, _, rfl, rfl, ⟨_, _, rfl, rfl, ⟨_, _, rfl, rfl, ⟨_, _, rfl, rfl, ⟨_, _, rfl, rfl, ⟨_, _, rfl, rfl, ⟨A, c, rfl, l, g⟩⟩⟩⟩⟩⟩⟩ := h
  exact ⟨A, c, rfl, l, g⟩
theorem heap_cmd : Kd.Heap kCmd := Kd.heap_iso _ (by repeat (first | exact Kd.heap_slice 5 (by first | exact Kd.heap_scalar | exact Kd.heap_int _) | refine Kd.heap_pair ?_ ?_ | exact Kd.heap_scalar | exact Kd.heap_int _))
theorem kCmd_openF {W : World} {ok : Nat → Prop} {x : Cmd} {cs : List Value} (h : Kd.FK kCmd W ok x cs) : ∃ A c, cs = [.int .i64 x.kd, .int .i64 x.a, .int .i64 x.b, .int .i64 x.x, .int .i64 x.p, .int .i64 x.m, .slice A x.l.length c] ∧ Kd.V (Kd.int .u8) 5 W 0 ok (.slice A x.l.length c) x.l := by
  obtain ⟨A, c, rfl, l, _⟩ := kCmd_open (Kd.FK_now h)
  refine ⟨A, c, rfl, Kd.V_mk l (fun W' hW => ?_)⟩
  obtain ⟨A_, c_, he, l_, g_⟩ := kCmd_open (h W' hW)
  injection (Option.some.inj (show some (Value.slice A x.l.length c) = some (Value.slice A_ x.l.length c_) from congrArg (fun l => l[6]?) he)) with ha_ _ _
  rw [ha_]
  exact g_
/-- A call of those that came in. -/
theorem cmd_at {W : World} {ok : Nat → Prop} {A : Option Addr} {c : Nat} {l : List Cmd} (h : Kd.V kCmd 37 W 0 ok (.slice A l.length c) l) (i : Nat) (hi : i < l.length) :
    ∃ ad Ai ci, A = some ad ∧ W.cell? (ad.add (i * 7)) = some (.int .i64 (l.getD i zCmd).kd) ∧ W.cell? ⟨(ad.add (i * 7)).block, (ad.add (i * 7)).off + 1, none⟩ = some (.int .i64 (l.getD i zCmd).a) ∧ W.cell? ⟨(ad.add (i * 7)).block, (ad.add (i * 7)).off + 2, none⟩ = some (.int .i64 (l.getD i zCmd).b) ∧
      W.cell? ⟨(ad.add (i * 7)).block, (ad.add (i * 7)).off + 3, none⟩ = some (.int .i64 (l.getD i zCmd).x) ∧ W.cell? ⟨(ad.add (i * 7)).block, (ad.add (i * 7)).off + 4, none⟩ = some (.int .i64 (l.getD i zCmd).p) ∧ W.cell? ⟨(ad.add (i * 7)).block, (ad.add (i * 7)).off + 5, none⟩ = some (.int .i64 (l.getD i zCmd).m) ∧
      W.cell? ⟨(ad.add (i * 7)).block, (ad.add (i * 7)).off + 6, none⟩ = some (.slice Ai (l.getD i zCmd).l.length ci) ∧ Kd.V (Kd.int .u8) 5 W 0 ok (.slice Ai (l.getD i zCmd).l.length ci) (l.getD i zCmd).l := by
  obtain ⟨ad, cs, e, _, hFK, hc, _⟩ := Kd.F_get (Kd.V_F h) zCmd (i : Int) (Int.natCast_nonneg _) (Int.ofNat_lt.2 hi)
  rw [Int.toNat_natCast] at hFK hc
  have hc' : ∀ j u, cs[j]? = some u → W.cell? (ad.add (i * 7 + j)) = some u := hc
  obtain ⟨Ai, ci, rfl, hv⟩ := kCmd_openF hFK
  exact ⟨ad, Ai, ci, e, hc' 0 _ rfl, by rw [← add_field _ _ 1 (by omega)]; exact hc' 1 _ rfl, by rw [← add_field _ _ 2 (by omega)]; exact hc' 2 _ rfl, by rw [← add_field _ _ 3 (by omega)]; exact hc' 3 _ rfl, by rw [← add_field _ _ 4 (by omega)]; exact hc' 4 _ rfl, by rw [← add_field _ _ 5 (by omega)]; exact hc' 5 _ rfl, by rw [← add_field _ _ 6 (by omega)]; exact hc' 6 _ rfl, hv⟩
/-- A call of those that came in, in any world behind. -/
theorem cmd_came {W : World} {A : Option Addr} {c : Nat} {l : List Cmd} (h : Kd.V kCmd 37 W 0 (fun k => k < W.heap.size) (.slice A l.length c) l) (i : Nat) (hi : i < l.length) :
    ∃ ad Ai ci, A = some ad ∧ ∀ W', Below W.heap.size W W' → ((W'.cell? (ad.add (i * 7)) = some (.int .i64 (l.getD i zCmd).kd) ∧ W'.cell? ⟨(ad.add (i * 7)).block, (ad.add (i * 7)).off + 1, none⟩ = some (.int .i64 (l.getD i zCmd).a) ∧ W'.cell? ⟨(ad.add (i * 7)).block, (ad.add (i * 7)).off + 2, none⟩ = some (.int .i64 (l.getD i zCmd).b) ∧
      W'.cell? ⟨(ad.add (i * 7)).block, (ad.add (i * 7)).off + 3, none⟩ = some (.int .i64 (l.getD i zCmd).x) ∧ W'.cell? ⟨(ad.add (i * 7)).block, (ad.add (i * 7)).off + 4, none⟩ = some (.int .i64 (l.getD i zCmd).p) ∧ W'.cell? ⟨(ad.add (i * 7)).block, (ad.add (i * 7)).off + 5, none⟩ = some (.int .i64 (l.getD i zCmd).m) ∧
      W'.cell? ⟨(ad.add (i * 7)).block, (ad.add (i * 7)).off + 6, none⟩ = some (.slice Ai (l.getD i zCmd).l.length ci)) ∧ Kd.V (Kd.int .u8) 5 W' 0 (fun k => k < W.heap.size) (.slice Ai (l.getD i zCmd).l.length ci) (l.getD i zCmd).l) := by
  obtain ⟨ad, Ai, ci, e, h0, h1, h2, h3, h4, h5, h6, hv⟩ := cmd_at h i hi
  exact ⟨ad, Ai, ci, e, fun W' hb => ⟨⟨pw_cell_below hb h0, pw_cell_below hb h1, pw_cell_below hb h2, pw_cell_below hb h3, pw_cell_below hb h4, pw_cell_below hb h5, pw_cell_below hb h6⟩, Kd.V_below hv hb⟩⟩
theorem cmd_ok {l : List Cmd} (h : ∀ x ∈ l, x.l.length ≤ 140737488351232) (i : Nat) (hi : i < l.length) : (l.getD i zCmd).l.length ≤ 140737488351232 := by
  rw [List.getD_eq_getElem?_getD, List.getElem?_eq_getElem hi]
  exact h _ (List.getElem_mem hi)
end Go.Proofs.Ytchepjbdaojidaa.PBags
namespace Go.Proofs.Ytchepjbdaojidaa.PBags
open Go.RowKit Go.Proofs.YtchepjbdaojidaaW.PrintWords Go.Proofs.YtchepjbdaojidaaW.PrintLast Go.Proofs.YtchepjbdaojidaaW.PrintMore
set_option linter.unusedVariables false
/-- In the midst of a law: a net of new blocks, the document's net (v, in the box b), tied. -/
structure Mid (W0 : World) (b : Nat) (W : World) (P : Nat → Prop) (g n : Nat) (bs : List (List Frame)) (ys : List S45) (v : Value) (Q : Nat → Prop) : Prop where
  net : Net W P g n bs
  tie : Tie n bs ys
  box : W.heap[b]? = some (.cells #[.int .i64 (n : Int), v] 41 (0, 0))
  view : Kd.V k45 45 W 0 Q v ys
  qp : ∀ k, Q k → ¬ P k
  qb : ∀ k, Q k → k ≠ b ∧ k < W.heap.size
  pb : ∀ k, P k → k ≠ b ∧ W0.heap.size ≤ k
  bge : W0.heap.size ≤ b
  below : Below W0.heap.size W0 W
section
variable {W0 W W' : World} {b t g n : Nat} {P P' Q Q' : Nat → Prop} {bs bs' : List (List Frame)} {ys ys' : List S45} {v v' : Value}
theorem Mid.next (h : Mid W0 b W P g n bs ys v Q) (hb : Below W.heap.size W W') : Mid W0 b W' P g n bs ys v Q :=
  ⟨h.net.below hb, h.tie, (hb.block b (blk_lt h.box)).trans h.box, Kd.V_below h.view hb, h.qp, fun k hk => ⟨(h.qb k hk).1, Nat.lt_of_lt_of_le (h.qb k hk).2 hb.size⟩, h.pb, h.bge, h.below.trans (hb.mono h.below.size)⟩
theorem Mid.start {w1 : World} (hN : Net w1 P g n bs) (hT : Tie n bs ys) (hw : Went W (fun _ => False) w1 P) (v : Value) (hV : Kd.V k45 45 w1 0 (fun _ => False) v ys) : Mid W w1.heap.size (w1.alloc (.cells #[.int .i64 (n : Int), v] 41)) P g n bs ys v (fun _ => False) :=
  ⟨hN.below (below_alloc (Below.refl _ _) _), hT, Mem.alloc_new _ _, Kd.V_alloc hV _, fun _ h => h.elim, fun _ h => h.elim, fun k hk => ⟨by have := hN.lt k hk; omega, hw.fresh.1 k hk⟩, hw.kept.size, below_alloc hw.fresh.2 _⟩
/-- What came in is not touched. -/
theorem Mid.came {α : Type} {d : Kd α} {e : Nat} {u : Value} {xs : List α} (h : Mid W0 b W P g n bs ys v Q) (hv : Kd.V d e W0 0 (fun k => k < W0.heap.size) u xs) : Kd.V d e W 0 (fun k => k < W0.heap.size) u xs ∧ (∀ k, k < W0.heap.size → ¬ P k) :=
  ⟨Kd.V_below hv h.below, fun k hk hp => by have := (h.pb k hp).2; omega⟩
theorem Went.to_below (hw : Went W P W' P') (h0 : Below W0.heap.size W0 W) (hp : ∀ k, P k → W0.heap.size ≤ k) : Below W0.heap.size W0 W' :=
  ⟨hw.kept.os.trans h0.os, hw.kept.tape.trans h0.tape, hw.kept.output.trans h0.output, Nat.le_trans h0.size hw.kept.size, fun k hk => (hw.kept.block k (Nat.lt_of_lt_of_le hk h0.size) (fun hk2 => by have := hp k hk2; omega)).trans (h0.block k hk)⟩
/-- A call of play. -/
theorem Mid.played (h : Mid W0 b W P g n bs ys v Q) (hN : Net W' P' g n bs') (hT : Tie n bs' ys') (hV : Kd.V k45 45 W' 0 Q' v' ys') (hq : ∀ k, Q' k → ¬ P' k) (hq2 : ∀ k, Q' k → Q k ∨ W.heap.size ≤ k) (hw : Went W P W' P') :
    Net W' P' g n bs' ∧ Tie n bs' ys' ∧ W'.heap[b]? = some (.cells #[.int .i64 (n : Int), v] 41 (0, 0)) ∧ Kd.V k45 45 W' 0 (fun k => Q' k ∧ k < W'.heap.size) v' ys' ∧ (∀ k, Q' k ∧ k < W'.heap.size → ¬ P' k) ∧ (∀ k, Q' k ∧ k < W'.heap.size → k ≠ b ∧ k < W'.heap.size) ∧ (∀ k, P' k → k ≠ b ∧ W0.heap.size ≤ k) ∧ Below W0.heap.size W0 W' := by
  have hb := blk_lt h.box
  refine ⟨hN, hT, (hw.kept.block b hb (fun hp => (h.pb b hp).1 rfl)).trans h.box, Kd.V_bound hV, fun k hk => hq k hk.1, fun k hk => ⟨fun e => ?_, hk.2⟩, fun k hk => ?_, hw.to_below h.below (fun k hk => (h.pb k hk).2)⟩
  · subst e
    exact (hq2 k hk.1).elim (fun h_ => (h.qb k h_).1 rfl) (fun h_ => by omega)
  · rcases hw.new k hk with h_ | h_
    · exact h.pb k h_
    · have := h.below.size
      exact ⟨by omega, by omega⟩
/-- The document's net is laid anew into its box. -/
theorem Mid.lay (hN : Net W P g n bs) (hT : Tie n bs ys) (hb : W.heap[b]? = some (.cells #[.int .i64 (n : Int), v] 41 (0, 0))) (hV : Kd.V k45 45 W 0 Q v' ys) (hqp : ∀ k, Q k → ¬ P k) (hqb : ∀ k, Q k → k ≠ b ∧ k < W.heap.size) (hpb : ∀ k, P k → k ≠ b ∧ W0.heap.size ≤ k) (hge : W0.heap.size ≤ b) (hB : Below W0.heap.size W0 W) :
    Mid W0 b ((W.setCell ⟨b, 0, none⟩ (.int .i64 (n : Int))).setCell ⟨b, 1, none⟩ v') P g n bs ys v' Q := by
  have e : ∀ k, k ≠ b → ((W.setCell ⟨b, 0, none⟩ (.int .i64 (n : Int))).setCell ⟨b, 1, none⟩ v').heap[k]? = W.heap[k]? := fun k hk => (Mem.set_other _ _ _ _ hk).trans (Mem.set_other _ _ _ _ hk)
  have es : ((W.setCell ⟨b, 0, none⟩ (.int .i64 (n : Int))).setCell ⟨b, 1, none⟩ v').heap.size = W.heap.size := by rw [Mem.set_size, Mem.set_size]
  refine ⟨⟨?_, hN.small, fun k hk => by rw [es]; exact hN.lt k hk⟩, hT, ret41 hb _ _, Kd.V_step hV (fun k hk _ => e k (hqb k hk).1), hqp, fun k hk => by rw [es]; exact hqb k hk, hpb, hge, below_set (below_set hB hge) hge⟩
  obtain ⟨A, c, h1, h2, h3, h4, h5, h6, h7⟩ := hN.i
  exact ⟨A, c, (e g (hpb g h3).1).trans h1, h2, h3, h4, h5, h6, Kd.S_step h7 (fun k hk _ => e k (hpb k hk.1).1)⟩
/-- A call of play was told: its result lies in a box t of its own. -/
structure Ready (W0 : World) (b t : Nat) (W : World) (P : Nat → Prop) (g n : Nat) (bs : List (List Frame)) (ys : List S45) (v v' : Value) (Q : Nat → Prop) : Prop where
  net : Net W P g n bs
  tie : Tie n bs ys
  box : W.heap[b]? = some (.cells #[.int .i64 (n : Int), v] 41 (0, 0))
  box2 : W.heap[t]? = some (.cells #[.int .i64 (n : Int), v'] 41 (0, 0))
  view : Kd.V k45 45 W 0 Q v' ys
  qp : ∀ k, Q k → ¬ P k
  qb : ∀ k, Q k → k ≠ b ∧ k < W.heap.size
  pb : ∀ k, P k → k ≠ b ∧ W0.heap.size ≤ k
  bge : W0.heap.size ≤ b
  below : Below W0.heap.size W0 W
theorem Ready.lay (h : Ready W0 b t W P g n bs ys v v' Q) : Mid W0 b ((W.setCell ⟨b, 0, none⟩ (.int .i64 (n : Int))).setCell ⟨b, 1, none⟩ v') P g n bs ys v' Q :=
  Mid.lay h.net h.tie h.box h.view h.qp h.qb h.pb h.bge h.below
theorem Mid.ready1 (h : Mid W0 b W P g n bs ys v Q) (hN : Net W' P' g n bs') (hT : Tie n bs' ys') (hV : Kd.V k45 45 W' 0 Q' v' ys') (hq : ∀ k, Q' k → ¬ P' k) (hq2 : ∀ k, Q' k → Q k ∨ W.heap.size ≤ k) (hw : Went W P W' P') :
    Ready W0 b W'.heap.size (((W'.alloc (.cells #[.int .i64 0, .slice none 0 0] 41)).setCell ⟨W'.heap.size, 0, none⟩ (.int .i64 (n : Int))).setCell ⟨W'.heap.size, 1, none⟩ v') P' g n bs' ys' v v' (fun k => Q' k ∧ k < W'.heap.size) := by
  obtain ⟨p1, p2, p3, p4, p5, p6, p7, p8⟩ := h.played hN hT hV hq hq2 hw
  have hb : Below W'.heap.size W' (((W'.alloc (.cells #[.int .i64 0, .slice none 0 0] 41)).setCell ⟨W'.heap.size, 0, none⟩ (.int .i64 (n : Int))).setCell ⟨W'.heap.size, 1, none⟩ v') := below_set (below_set (below_alloc (Below.refl _ _) _) (Nat.le_refl _)) (Nat.le_refl _)
  exact ⟨p1.below hb, p2, (hb.block b (blk_lt p3)).trans p3, ret41 (Mem.alloc_new _ _) _ _, Kd.V_below p4 hb, p5, fun k hk => ⟨(p6 k hk).1, Nat.lt_of_lt_of_le (p6 k hk).2 hb.size⟩, p7, h.bge, p8.trans (hb.mono p8.size)⟩
theorem Mid.ready2 (h : Mid W0 b W P g n bs ys v Q) (hN : Net W' P' g n bs') (hT : Tie n bs' ys') (hV : Kd.V k45 45 W' 0 Q' v' ys') (hq : ∀ k, Q' k → ¬ P' k) (hq2 : ∀ k, Q' k → Q k ∨ (W.alloc (.cells #[.int .i64 0, .slice none 0 0] 41)).heap.size ≤ k) (hw : Went (W.alloc (.cells #[.int .i64 0, .slice none 0 0] 41)) P W' P') :
    W'.heap[W.heap.size]? = some (.cells #[.int .i64 0, .slice none 0 0] 41 (0, 0)) ∧ Ready W0 b W.heap.size ((W'.setCell ⟨W.heap.size, 0, none⟩ (.int .i64 (n : Int))).setCell ⟨W.heap.size, 1, none⟩ v') P' g n bs' ys' v v' (fun k => Q' k ∧ k < W'.heap.size) := by
  have hA := h.next (below_alloc (Below.refl _ _) (.cells #[.int .i64 0, .slice none 0 0] 41))
  have hs : (W.alloc (.cells #[.int .i64 0, .slice none 0 0] 41)).heap.size = W.heap.size + 1 := Mem.alloc_size _ _
  have hbx : W'.heap[W.heap.size]? = some (.cells #[.int .i64 0, .slice none 0 0] 41 (0, 0)) := (hw.kept.block W.heap.size (by omega) (fun hp => Nat.lt_irrefl _ (h.net.lt _ hp))).trans (Mem.alloc_new _ _)
  obtain ⟨p1, p2, p3, p4, p5, p6, p7, p8⟩ := hA.played hN hT hV hq hq2 hw
  have hp : ∀ k, P' k → k ≠ W.heap.size := fun k hk e => by
    rcases hw.new k hk with h_ | h_
    · have := h.net.lt k h_; omega
    · omega
  have hqt : ∀ k, Q' k ∧ k < W'.heap.size → k ≠ W.heap.size := fun k hk e => by
    rcases hq2 k hk.1 with h_ | h_
    · have := (h.qb k h_).2; omega
    · omega
  have hbt : b ≠ W.heap.size := fun e => by have := blk_lt h.box; omega
  have e : ∀ k, k ≠ W.heap.size → ((W'.setCell ⟨W.heap.size, 0, none⟩ (.int .i64 (n : Int))).setCell ⟨W.heap.size, 1, none⟩ v').heap[k]? = W'.heap[k]? := fun k hk => (Mem.set_other _ _ _ _ hk).trans (Mem.set_other _ _ _ _ hk)
  have es : ((W'.setCell ⟨W.heap.size, 0, none⟩ (.int .i64 (n : Int))).setCell ⟨W.heap.size, 1, none⟩ v').heap.size = W'.heap.size := by rw [Mem.set_size, Mem.set_size]
  have hge : W0.heap.size ≤ W.heap.size := h.below.size
  refine ⟨hbx, ⟨?_, p1.small, fun k hk => by rw [es]; exact p1.lt k hk⟩, p2, (e b hbt).trans p3, ret41 hbx _ _, Kd.V_step p4 (fun k hk _ => e k (hqt k hk)), p5, fun k hk => by rw [es]; exact p6 k hk, p7, h.bge, below_set (below_set p8 hge) hge⟩
  obtain ⟨A, c, h1, h2, h3, h4, h5, h6, h7⟩ := p1.i
  exact ⟨A, c, (e g (hp g h3)).trans h1, h2, h3, h4, h5, h6, Kd.S_step h7 (fun k hk _ => e k (hp k hk.1))⟩
/-- Another net, of new blocks, goes on; the old one may have been written. -/
theorem Mid.other {P2 : Nat → Prop} {g2 : Nat} (h : Mid W0 b W P g n bs ys v Q) (hN : Net W' P2 g2 n bs) (h2 : ∀ k, P2 k → W.heap.size ≤ k) (hw : Went W P W' P') : Mid W0 b W' P2 g2 n bs ys v Q := by
  have hb := blk_lt h.box
  refine ⟨hN, h.tie, (hw.kept.block b hb (fun hp => (h.pb b hp).1 rfl)).trans h.box, V_went h.view hw h.qp, fun k hk hp => ?_, fun k hk => ⟨(h.qb k hk).1, Nat.lt_of_lt_of_le (h.qb k hk).2 hw.kept.size⟩, fun k hk => ?_, h.bge, hw.to_below h.below (fun k hk => (h.pb k hk).2)⟩
  · have := h2 k hp
    have := (h.qb k hk).2
    omega
  · have := h2 k hk
    have := h.below.size
    exact ⟨by omega, by omega⟩
end
end Go.Proofs.Ytchepjbdaojidaa.PBags
namespace Go.Proofs.Ytchepjbdaojidaa.PBags
open Go.RowKit Go.Proofs.YtchepjbdaojidaaW.PrintWords Go.Proofs.YtchepjbdaojidaaW.PrintLast Go.Proofs.YtchepjbdaojidaaW.PrintMore
attribute [local go_sem] max2_int min2_int max_two min_two max_three min_three max_four min_four
set_option linter.unusedVariables false
set_option linter.unusedSimpArgs false

theorem bag_other {n : Nat} {bs : List (List Frame)} {a b c d : Int} (ha : linkF n a b = 0) (hc : linkF n c d = 0) (hne : ¬ (c = a ∧ d = b)) (xs : List Frame) : (bs.set (key n a b) xs).getD (key n c d) [] = bs.getD (key n c d) [] := by
  obtain ⟨i, j, rfl, rfl, hi, hj, _⟩ := linkF_ok ha
  obtain ⟨i2, j2, rfl, rfl, hi2, hj2, _⟩ := linkF_ok hc
  refine getD_set_other _ _ _ _ _ (fun h => hne ?_)
  rw [key_nat, key_nat] at h
  obtain ⟨h1, h2⟩ := key_inj hj hj2 h
  omega
theorem put_other {n : Nat} {bs : List (List Frame)} {a b c d : Int} {f : Frame} (hc : linkF n c d = 0) (hne : ¬ (c = a ∧ d = b)) : (putF n bs a b f).2.getD (key n c d) [] = bs.getD (key n c d) [] := by
  unfold putF
  by_cases h : linkF n a b = 0
  · rw [if_pos h]
    split
    · rfl
    · split
      · rfl
      · exact bag_other h hc hne _
  · rw [if_neg h]
theorem lose_other {n : Nat} {bs : List (List Frame)} {a b x c d : Int} (hc : linkF n c d = 0) (hne : ¬ (c = a ∧ d = b)) : (loseF n bs a b x).2.getD (key n c d) [] = bs.getD (key n c d) [] := by
  unfold loseF
  by_cases h : frameF n bs a b x = 0
  · rw [if_pos h]
    obtain ⟨_, _, _, hl⟩ : ∃ (_ : True) (_ : True) (_ : True), linkF n a b = 0 := ⟨trivial, trivial, trivial, by
      unfold frameF at h
      by_cases hl : linkF n a b = 0
      · exact hl
      · rw [if_neg hl] at h; exact h⟩
    exact bag_other hl hc hne _
  · rw [if_neg h]
theorem double_other {n : Nat} {bs : List (List Frame)} {a b x c d : Int} (hc : linkF n c d = 0) (hne : ¬ (c = a ∧ d = b)) : (doubleF n bs a b x).2.getD (key n c d) [] = bs.getD (key n c d) [] := by
  unfold doubleF
  split
  · exact put_other hc hne
  · rfl
theorem spoil_other {n : Nat} {bs : List (List Frame)} {a b x p m c d : Int} (hc : linkF n c d = 0) (hne : ¬ (c = a ∧ d = b)) : (spoilF n bs a b x p m).2.getD (key n c d) [] = bs.getD (key n c d) [] := by
  unfold spoilF
  by_cases h : frameF n bs a b x = 0
  · rw [if_pos h]
    have hl : linkF n a b = 0 := by
      unfold frameF at h
      by_cases hl : linkF n a b = 0
      · exact hl
      · rw [if_neg hl] at h; exact h
    split
    · rfl
    · split
      · exact bag_other hl hc hne _
      · rfl
  · rw [if_neg h]
/-- What is done to one link changes no other one. -/
theorem play_other {n : Nat} {bs : List (List Frame)} {kd a b x p m c d : Int} {l : List Int} (hc : linkF n c d = 0) (hne : ¬ (c = a ∧ d = b)) : (playF n bs kd a b x p m l).getD (key n c d) [] = bs.getD (key n c d) [] := by
  unfold playF
  split
  · exact put_other hc hne
  · split
    · exact lose_other hc hne
    · split
      · exact double_other hc hne
      · split
        · exact spoil_other hc hne
        · rfl
theorem wait_same {n : Nat} {bs bs' : List (List Frame)} {c d : Int} (h : bs'.getD (key n c d) [] = bs.getD (key n c d) []) : waitF n bs' c d = waitF n bs c d := by unfold waitF; rw [h]
theorem peek_same {n : Nat} {bs bs' : List (List Frame)} {c d x : Int} (h : bs'.getD (key n c d) [] = bs.getD (key n c d) []) : peekF n bs' c d x = peekF n bs c d x := by unfold peekF frameF; rw [h]
theorem next_eq {i : Nat} (h : wrap64 ((i : Int) + 1) = (i : Int) + 1) : Value.int .i64 (wrap64 ((i : Int) + 1)) = Value.int .i64 ((i + 1 : Nat) : Int) := by rw [h, Int.natCast_succ]
theorem dec_lt {i q : Nat} (h : i < q) (hw : wrap64 ((i : Int) + 1) = (i : Int) + 1) : q - (intOf (Value.int .i64 (wrap64 ((i : Int) + 1)))).toNat < q - (intOf (Value.int .i64 (i : Int))).toNat := by
  rw [hw]
  show q - ((i : Int) + 1).toNat < q - (i : Int).toNat
  omega
theorem sent_at {W : World} {ok : Nat → Prop} {A : Option Addr} {c : Nat} {ys : List S45} (h : Kd.V k45 45 W 0 ok (.slice A ys.length c) ys) (i : Nat) (hi : i < ys.length) :
    ∃ ad A2 c2, A = some ad ∧ W.cell? (ad.add (i * 4)) = some (.int .i64 (ys.getD i z45).f0) ∧ W.cell? ⟨(ad.add (i * 4)).block, (ad.add (i * 4)).off + 1, none⟩ = some (.int .i64 (ys.getD i z45).f1) ∧ W.cell? ⟨(ad.add (i * 4)).block, (ad.add (i * 4)).off + 2, none⟩ = some (.slice A2 (ys.getD i z45).f2.length c2) ∧ W.cell? ⟨(ad.add (i * 4)).block, (ad.add (i * 4)).off + 3, none⟩ = some (.bool (ys.getD i z45).f3) := by
  obtain ⟨ad, A2, c2, e, h0, h1, h2, h3, _, _⟩ := at_T45 (Kd.V_reads' h).2.2 (i : Int) (Int.natCast_nonneg _) (Int.ofNat_lt.2 hi)
  unfold rd_T45 at h0 h1 h2 h3
  rw [Int.toNat_natCast] at h0 h1 h2 h3
  exact ⟨ad, A2, c2, e, h0, h1, h2, h3⟩
def bap.T8 : Bool × List (List Nat × List Nat) := (true, [([], []), ([], []), ([], []), ([], []), ([2, 3], [2, 3]), ([4], [4]), ([0, 1, 5], [0, 1, 5]), ([6], [6]), ([7], [7]), ([7], [7]), ([], []), ([10, 8, 6, 0, 1, 2, 3, 4, 5, 6, 7, 8, 10], [8, 10]), ([9, 11, 0, 1, 2, 3, 4, 5, 6, 7, 8, 9, 10, 11], [9])])
def bap.B8 : List Nat := [0, 0, 0, 0, 12, 28, 63, 127, 255, 255, 0, 1535, 4095]
theorem bap.tab8 : rtab .any (opsOf Try.f5 8) = bap.T8 := by kernel_rfl
theorem bap.bits8 : waitsOk bap.T8.2 bap.B8 = true := by kernel_rfl
def baq.T16 : Bool × List (List Nat × List Nat) := (true, [([], []), ([], []), ([1], [1]), ([], []), ([3], [3]), ([0, 2, 4], [0, 2, 4]), ([], []), ([], []), ([7], [7]), ([], []), ([9], [9]), ([6, 8, 10, 5], [6, 8, 10]), ([5, 11], [5, 11])])
def baq.B16 : List Nat := [0, 0, 2, 0, 8, 31, 0, 0, 128, 0, 512, 2047, 4095]
theorem baq.tab16 : rtab .any (opsOf Try.f5 16) = baq.T16 := by kernel_rfl
theorem baq.bits16 : waitsOk baq.T16.2 baq.B16 = true := by kernel_rfl
set_option maxHeartbeats 8000000 in
set_option maxRecDepth 100000 in
theorem bagsApart_calls (W : World) (A : Option Addr) (c : Nat) (l : List Cmd) (hl : Kd.C kCmd W A l.length l) (hc : l.length ≤ c) (hok : ∀ x ∈ l, x.l.length ≤ 140737488351232)
    (kd' a' b' x' p' m' : Int) (Al : Option Addr) (cl_ : Nat) (ll : List Int) (hll : Kd.C (Kd.int .u8) W Al ll.length ll) (hcl : ll.length ≤ cl_) (hbl : ll.length ≤ 140737488351232) :
    Calls Try.prog 5 #[.slice A l.length c, .agg #[.int .i64 kd', .int .i64 a', .int .i64 b', .int .i64 x', .int .i64 p', .int .i64 m', .slice Al ll.length cl_]] W fun e W' => e = .returned (.bool true) ∧ Below W.heap.size W W' := by
  obtain ⟨W0, hW0⟩ : ∃ W0, W.alloc (.cells #[.int .i64 kd', .int .i64 a', .int .i64 b', .int .i64 x', .int .i64 p', .int .i64 m', .slice Al ll.length cl_] 37) = W0 := ⟨_, rfl⟩
  have hB0 : Below W.heap.size W W0 := by rw [← hW0]; exact below_alloc (Below.refl _ _) _
  have hbx : W0.heap[W.heap.size]? = some (.cells #[.int .i64 kd', .int .i64 a', .int .i64 b', .int .i64 x', .int .i64 p', .int .i64 m', .slice Al ll.length cl_] 37 (0, 0)) := by rw [← hW0]; exact Mem.alloc_new _ _
  have HB0 := Aside0.mk hB0
  have HBX := Aside0.mk hbx
  have HL : Aside0 (Kd.V kCmd 37 W0 0 (fun k => k < W0.heap.size) (.slice A l.length c) l) := ⟨Kd.V_mono (Kd.V_below (Kd.V_mk (e := 37) (base := 0) (ok := fun k => k < W.heap.size) hc (Kd.C_F heap_cmd hl)) hB0) (fun k hk => Nat.lt_of_lt_of_le hk hB0.size)⟩
  have HV : Aside0 (Kd.V (Kd.int .u8) 5 W0 0 (fun k => k < W0.heap.size) (.slice Al ll.length cl_) ll) := ⟨Kd.V_mono (Kd.V_below (Kd.V_mk (e := 5) (base := 0) (ok := fun k => k < W.heap.size) hcl (Kd.C_F (Kd.heap_int _) hll)) hB0) (fun k hk => Nat.lt_of_lt_of_le hk hB0.size)⟩
  have HBL := Aside0.mk hbl
  have HOK := Aside0.mk hok
  obtain ⟨q, hq⟩ : ∃ q, l.length = q := ⟨_, rfl⟩
  have HLEN := Aside0.mk hq
  rw [hq] at HL
  have HNW := Aside0.mk (Net.new W0 3 (by decide) (by decide))
  clear hl hok hc hll hcl hbl hB0 hbx
  rw [hq]
  clear hq
  go_enter Try.func5, Try.ntmps5
  go_wp2_with (fail)
  clear hW0
  refine HNW.out.mono ?_
  rintro e w1 ⟨g, P1, rfl, hN1, hW1⟩
  have HM0 : Aside0 (Mid W0 w1.heap.size (w1.alloc (.cells #[.int .i64 3, .slice none 0 0] 41)) P1 g 3 _ [] (.slice none 0 0) _) := ⟨Mid.start (ys := []) hN1 (tie_empty 3) hW1 (.slice none 0 0) (Kd.V_nil _ _ _ _ _)⟩
  clear hN1 hW1 HNW
  go_upto_block 0 with (fail)
  generalize w1.heap.size = b7 at *
  go_cut [8] (fun s8 wc => ∃ (P : Nat → Prop) (bs : List (List Frame)) (ys : List S45) (Ay : Option Addr) (cy : Nat) (Q : Nat → Prop), Aside0 (Mid W0 b7 wc P g 3 bs ys (.slice Ay ys.length cy) Q))
  case first =>
    go_wp2_with (fail)
    go_loopw [8] (fun v8 wr => ∃ (i : Nat) (P : Nat → Prop) (bs : List (List Frame)) (ys : List S45) (Ay : Option Addr) (cy : Nat) (Q : Nat → Prop), v8 = .int .i64 (i : Int) ∧ Aside0 (i ≤ 200) ∧ Aside0 (Mid W0 b7 wr P g 3 bs ys (.slice Ay ys.length cy) Q)) (fun v8 _ => 200 - (intOf v8).toNat)
    case atStart => exact ⟨0, P1, _, [], none, 0, _, rfl, ⟨Nat.zero_le _⟩, HM0⟩
    case round =>
      rename World => wo
      clear HM0
      obtain ⟨i, P, bs, ys, Ay, cy, Q, rfl, HI, HM⟩ := hrel
      by_cases hlt : i < q
      · have b2 : ((i : Int) < (q : Int)) = True := eq_true (Int.ofNat_lt.2 hlt)
        have b3 : (i < q) = True := eq_true hlt
        by_cases h4 : i < 200
        · have b1 : (0 ≤ (i : Int)) = True := eq_true (Int.natCast_nonneg _)
          have b4 : ((i : Int) < 200) = True := eq_true (Int.ofNat_lt.2 h4)
          have b5 : (i < 200) = True := eq_true h4
          obtain ⟨ad, Ai, ci, hA, hc_⟩ := cmd_came (by rw [HLEN.out]; exact HL.out) i (by rw [HLEN.out]; exact hlt)
          have HLP := Aside0.mk (cmd_ok HOK.out i (by rw [HLEN.out]; exact hlt))
          obtain ⟨z, hz⟩ : ∃ z, l.getD i zCmd = z := ⟨_, rfl⟩
          rw [hz] at HLP
          simp only [hz] at hc_
          clear hz
          obtain ⟨kd, a, b, x, p, mm, lp⟩ := z
          subst hA
          have HC := Aside0.mk hc_
          have hw_ := wrap_next (m := i) (by omega)
          have HLT := Aside0.mk h4
          clear hlt h4 hc_
          go_wp2_with (fail)
          have HMd := Aside0.mk (HM.out.next (below_drew (Below.refl _ wo)))
          have HMa := Aside0.mk (HMd.out.next (below_alloc (Below.refl _ _) (.cells #[.int .i64 0, .slice none 0 0] 41)))
          have HP1 := Aside0.mk (play_calls HMd.out.net HMd.out.tie Ay cy HMd.out.view HMd.out.qp kd a b x p mm Ai ci lp (HC.out _ HMd.out.below).2 (HM.out.came HL.out).2 HLP.out)
          have HP2 := Aside0.mk (play_calls HMa.out.net HMa.out.tie Ay cy HMa.out.view HMa.out.qp kd a b x p mm Ai ci lp (HC.out _ HMa.out.below).2 (HM.out.came HL.out).2 HLP.out)
          have HS : Aside0 ((wo.drew.cell? ⟨b7, 0, none⟩ = some (.int .i64 3) ∧ wo.drew.cell? ⟨b7, 1, none⟩ = some (.slice Ay ys.length cy)) ∧ wo.drew.cell? (ad.add (i * 7)) = some (.int .i64 kd) ∧ wo.drew.cell? ⟨(ad.add (i * 7)).block, (ad.add (i * 7)).off + 1, none⟩ = some (.int .i64 a) ∧ wo.drew.cell? ⟨(ad.add (i * 7)).block, (ad.add (i * 7)).off + 2, none⟩ = some (.int .i64 b) ∧ wo.drew.cell? ⟨(ad.add (i * 7)).block, (ad.add (i * 7)).off + 3, none⟩ = some (.int .i64 x) ∧ wo.drew.cell? ⟨(ad.add (i * 7)).block, (ad.add (i * 7)).off + 4, none⟩ = some (.int .i64 p) ∧ wo.drew.cell? ⟨(ad.add (i * 7)).block, (ad.add (i * 7)).off + 5, none⟩ = some (.int .i64 mm) ∧ wo.drew.cell? ⟨(ad.add (i * 7)).block, (ad.add (i * 7)).off + 6, none⟩ = some (.slice Ai lp.length ci)) := ⟨⟨Mem.cell_of HMd.out.box 0, Mem.cell_of HMd.out.box 1⟩, (HC.out _ HMd.out.below).1⟩
          refine start_ (n := 13) (S := (fun w' => (w'.cell? ⟨b7, 0, none⟩ = some (.int .i64 3) ∧ w'.cell? ⟨b7, 1, none⟩ = some (.slice Ay ys.length cy)) ∧ w'.cell? (ad.add (i * 7)) = some (.int .i64 kd) ∧ w'.cell? ⟨(ad.add (i * 7)).block, (ad.add (i * 7)).off + 1, none⟩ = some (.int .i64 a) ∧ w'.cell? ⟨(ad.add (i * 7)).block, (ad.add (i * 7)).off + 2, none⟩ = some (.int .i64 b) ∧ w'.cell? ⟨(ad.add (i * 7)).block, (ad.add (i * 7)).off + 3, none⟩ = some (.int .i64 x) ∧ w'.cell? ⟨(ad.add (i * 7)).block, (ad.add (i * 7)).off + 4, none⟩ = some (.int .i64 p) ∧ w'.cell? ⟨(ad.add (i * 7)).block, (ad.add (i * 7)).off + 5, none⟩ = some (.int .i64 mm) ∧ w'.cell? ⟨(ad.add (i * 7)).block, (ad.add (i * 7)).off + 6, none⟩ = some (.slice Ai lp.length ci))) (ds := [11]) #[false, false, false, false, false, false, false, false, false, false, false, false, false] (by kernel_rfl) rfl rfl (HS.out) (fun hHeld => ?_)
          refine with_tabW bap.tab8 bap.bits8 (fun HT_ HW_ => ?_)
          refine pure_ (i := 0) (N := (some 40)) (v := ?_) (a' := ?_) #[true, false, false, false, false, false, false, false, false, false, false, false, false] rfl rfl (any_of HT_.out (by kernel_rfl)) (fun _ _ _ h => h) (Or.inl ⟨by rfl, ?_⟩) ?_ ?_
          rotate_left
          · intro w'
            go_simp
            with_reducible rfl
          rotate_left
          · simp only [Act.put, List.setIfInBounds_toArray, List.set_cons_zero, List.set_cons_succ, i64_w, i32_w]
            rfl
          refine pure_ (i := 2) (N := (some 42)) (v := ?_) (a' := ?_) #[true, false, true, false, false, false, false, false, false, false, false, false, false] rfl rfl (any_of HT_.out (by kernel_rfl)) (fun _ _ _ h => h) (Or.inl ⟨by rfl, ?_⟩) ?_ ?_
          rotate_left
          · intro w'
            go_simp
            with_reducible rfl
          rotate_left
          · simp only [Act.put, List.setIfInBounds_toArray, List.set_cons_zero, List.set_cons_succ, i64_w, i32_w]
            rfl
          refine pure_ (i := 3) (N := (some 43)) (v := ?_) (a' := ?_) #[true, false, true, true, false, false, false, false, false, false, false, false, false] rfl rfl (any_of HT_.out (by kernel_rfl)) (fun _ _ _ h => h) (Or.inl ⟨by rfl, ?_⟩) ?_ ?_
          rotate_left
          · intro w'
            go_simp
            with_reducible rfl
          rotate_left
          · simp only [Act.put, List.setIfInBounds_toArray, List.set_cons_zero, List.set_cons_succ, i64_w, i32_w]
            rfl
          refine pure_ (i := 4) (N := (some 44)) (v := ?_) (a' := ?_) #[true, false, true, true, true, false, false, false, false, false, false, false, false] rfl rfl (any_of HT_.out (by kernel_rfl)) (fun _ _ _ h => h) (Or.inl ⟨by rfl, ?_⟩) ?_ ?_
          rotate_left
          · intro w'
            go_simp
            with_reducible rfl
          rotate_left
          · simp only [Act.put, List.setIfInBounds_toArray, List.set_cons_zero, List.set_cons_succ, i64_w, i32_w]
            rfl
          refine take_ (i := 1) (N := (some 41)) (v := ?_) (a' := ?_) #[true, true, true, true, true, false, false, false, false, false, false, false, false] rfl rfl (take_ofW HT_.out HW_.out (by kernel_rfl)) (fun _ _ _ h => h) (Or.inl ⟨by rfl, ?_⟩) hHeld ?_ ?_
          rotate_left
          · rintro w' ⟨⟨s0, s1⟩, s2, s3, s4, s5, s6, s7, s8⟩
            go_simp
            with_reducible rfl
          rotate_left
          · simp only [Act.put, List.setIfInBounds_toArray, List.set_cons_zero, List.set_cons_succ, i64_w, i32_w]
            rfl
          refine take_ (i := 5) (N := (some 45)) (v := ?_) (a' := ?_) #[true, true, true, true, true, true, false, false, false, false, false, false, false] rfl rfl (take_ofW HT_.out HW_.out (by kernel_rfl)) (fun _ _ _ h => h) (Or.inl ⟨by rfl, ?_⟩) hHeld ?_ ?_
          rotate_left
          · rintro w' ⟨⟨s0, s1⟩, s2, s3, s4, s5, s6, s7, s8⟩
            go_simp
            with_reducible rfl
          rotate_left
          · simp only [Act.put, List.setIfInBounds_toArray, List.set_cons_zero, List.set_cons_succ, i64_w, i32_w]
            rfl
          refine two_ (i := 6) (j := 10) (Ni := (some 46)) (Nj := (some 9)) #[true, true, true, true, true, true, true, false, false, false, false, false, false] #[true, true, true, true, true, true, false, false, false, false, true, false, false] rfl rfl rfl rfl (two_of HT_.out (by kernel_rfl)) (by decide) (by decide) (fun K hK => ?_) (fun K hK => ?_)
          · refine goes_ Try.func18 (by kernel_rfl) rfl #[.pointer (some ⟨g, 0, none⟩), .agg #[.int .i64 3, .slice Ay ys.length cy], .agg #[.int .i64 kd, .int .i64 a, .int .i64 b, .int .i64 x, .int .i64 p, .int .i64 mm, .slice Ai lp.length ci]] (by rfl) rfl rfl (by (try simp only [List.map_toArray, List.map_cons, List.map_nil]); first | done | rfl) ?_
            refine HP1.out.mono ?_
            rintro e w3 ⟨v3, ys3, rfl, P3, Q3, hN3, hT3, hV3, hq3, hr3, hw3⟩
            refine ⟨_, rfl, ?_⟩
            obtain ⟨A3, c3, rfl⟩ := Kd.V_slice hV3
            have HPD := Aside0.mk (HMd.out.played hN3 hT3 hV3 hq3 hr3 hw3)
            have HRD : Aside0 (Ready W0 b7 w3.heap.size (((w3.alloc (.cells #[.int .i64 0, .slice none 0 0] 41)).setCell ⟨w3.heap.size, 0, none⟩ (.int .i64 3)).setCell ⟨w3.heap.size, 1, none⟩ (.slice A3 ys3.length c3)) P3 g 3 _ ys3 (.slice Ay ys.length cy) (.slice A3 ys3.length c3) _) := ⟨HMd.out.ready1 hN3 hT3 hV3 hq3 hr3 hw3⟩
            clear hN3 hT3 hV3 hq3 hr3 hw3
            refine hK.out _ _ (⟨⟨Mem.cell_of HPD.out.2.2.1 0, Mem.cell_of HPD.out.2.2.1 1⟩, (HC.out _ HPD.out.2.2.2.2.2.2.2).1⟩) (fun hHeld => ?_)
            clear hK K
            refine norm_ (a' := ?_) ?_ ?_
            rotate_left
            · show Act.put _ (some 46) _ = _
              simp only [Act.put, List.setIfInBounds_toArray, List.set_cons_zero, List.set_cons_succ, i64_w, i32_w]
              rfl
            refine pure_ (i := 7) (N := (some 39)) (v := ?_) (a' := ?_) #[true, true, true, true, true, true, true, true, false, false, false, false, false] rfl rfl (any_of HT_.out (by kernel_rfl)) (fun _ _ _ h => h) (Or.inl ⟨by rfl, ?_⟩) ?_ ?_
            rotate_left
            · intro w'
              go_simp
              with_reducible rfl
            rotate_left
            · simp only [Act.put, List.setIfInBounds_toArray, List.set_cons_zero, List.set_cons_succ, i64_w, i32_w]
              rfl
            refine pure_ (i := 8) (N := (some 47)) (v := ?_) (a' := ?_) #[true, true, true, true, true, true, true, true, true, false, false, false, false] rfl rfl (any_of HT_.out (by kernel_rfl)) (fun _ _ _ h => h) (Or.inl ⟨by rfl, ?_⟩) ?_ ?_
            rotate_left
            · intro w'
              go_simp
              with_reducible rfl
            rotate_left
            · simp only [Act.put, List.setIfInBounds_toArray, List.set_cons_zero, List.set_cons_succ, i64_w, i32_w]
              rfl
            refine pure_ (i := 9) (N := (some 48)) (v := ?_) (a' := ?_) #[true, true, true, true, true, true, true, true, true, true, false, false, false] rfl rfl (any_of HT_.out (by kernel_rfl)) (fun _ _ _ h => h) (Or.inl ⟨by rfl, ?_⟩) ?_ ?_
            rotate_left
            · intro w'
              go_simp
              with_reducible rfl
            rotate_left
            · simp only [Act.put, List.setIfInBounds_toArray, List.set_cons_zero, List.set_cons_succ, i64_w, i32_w]
              rfl
            refine one_ (i := 10) (N := (some 9)) #[true, true, true, true, true, true, true, true, true, true, true, false, false] rfl rfl (one_of HT_.out (by kernel_rfl)) (by decide) (fun K hK => ?_)
            refine value_ (w1 := w3.alloc (.cells #[.int .i64 0, .slice none 0 0] 41)) (v := .pointer (some ⟨w3.heap.size, 0, none⟩)) (by rfl) rfl ?_ ?_
            · go_simp
            have hbz : (w3.alloc (.cells #[.int .i64 0, .slice none 0 0] 41)).heap[w3.heap.size]? = some (.cells #[.int .i64 0, .slice none 0 0] 41 (0, 0)) := Mem.alloc_new _ _
            have cz0 := Mem.cell_of hbz 0
            have cz1 := Mem.cell_of hbz 1
            have fz0 := Mem.free_of hbz 0
            have fz1 := Mem.free_of hbz 1
            clear hbz
            have hpb : Below w3.heap.size w3 (w3.alloc (.cells #[.int .i64 0, .slice none 0 0] 41)) := below_alloc (Below.refl _ _) _
            refine hK.out _ _ (⟨⟨pw_cell_below hpb (Mem.cell_of HPD.out.2.2.1 0), pw_cell_below hpb (Mem.cell_of HPD.out.2.2.1 1)⟩, (HC.out _ (HPD.out.2.2.2.2.2.2.2.trans (hpb.mono HPD.out.2.2.2.2.2.2.2.size))).1⟩) (fun hHeld => ?_)
            clear hK K
            refine norm_ (a' := ?_) ?_ ?_
            rotate_left
            · show Act.put _ (some 9) _ = _
              simp only [Act.put, List.setIfInBounds_toArray, List.set_cons_zero, List.set_cons_succ, i64_w, i32_w]
              rfl
            refine last_ (i := 11) (N := none) #[true, true, true, true, true, true, true, true, true, true, true, true, false] rfl rfl (one_of HT_.out (by kernel_rfl)) (by decide) (fun K hK => ?_)
            refine skip_ (w1 := ((w3.alloc (.cells #[.int .i64 0, .slice none 0 0] 41)).setCell ⟨w3.heap.size, 0, none⟩ (.int .i64 3)).setCell ⟨w3.heap.size, 1, none⟩ (.slice A3 ys3.length c3)) (by rfl) rfl ?_ ?_
            · go_simp
            refine hK.out _ _ ?_
            clear hK K
            refine pure_ (i := 12) (N := (some 10)) (v := ?_) (a' := ?_) #[true, true, true, true, true, true, true, true, true, true, true, true, true] rfl rfl (any_of HT_.out (by kernel_rfl)) (fun _ _ _ h => h) (Or.inl ⟨by rfl, ?_⟩) ?_ ?_
            rotate_left
            · intro w'
              go_simp
              with_reducible rfl
            rotate_left
            · simp only [Act.put, List.setIfInBounds_toArray, List.set_cons_zero, List.set_cons_succ, i64_w, i32_w]
              rfl
            refine done_ (done_of HT_.out (by kernel_rfl)) ?_
            generalize ((w3.alloc (.cells #[.int .i64 0, .slice none 0 0] 41)).setCell ⟨w3.heap.size, 0, none⟩ (.int .i64 3)).setCell ⟨w3.heap.size, 1, none⟩ (.slice A3 ys3.length c3) = w4 at HRD ⊢
            clear cz0 cz1 fz0 fz1 HPD HP1 HP2 HS HMd HMa
            generalize htt : w3.heap.size = tt at HRD ⊢
            clear htt
            have ct0 : w4.cell? ⟨tt, 0, none⟩ = some (.int .i64 3) := Mem.cell_of HRD.out.box2 0
            have ct1 := Mem.cell_of HRD.out.box2 1
            have cb0 : w4.cell? ⟨b7, 0, none⟩ = some (.int .i64 3) := Mem.cell_of HRD.out.box 0
            have cb1 := Mem.cell_of HRD.out.box 1
            have fb0 := Mem.free_of HRD.out.box 0
            have fb1 := Mem.free_of HRD.out.box 1
            have HM5 : Aside0 (Mid W0 b7 ((w4.setCell ⟨b7, 0, none⟩ (.int .i64 3)).setCell ⟨b7, 1, none⟩ (.slice A3 ys3.length c3)) P3 g 3 _ ys3 (.slice A3 ys3.length c3) _) := ⟨HRD.out.lay⟩
            clear HRD
            go_wp2
            go_roundw
            case rel =>
              exact ⟨i + 1, _, _, ys3, A3, c3, _, next_eq hw_, ⟨HLT.out⟩, HM5⟩
            case measure => exact dec_lt HLT.out hw_
          · refine value_ (w1 := wo.drew.alloc (.cells #[.int .i64 0, .slice none 0 0] 41)) (v := .pointer (some ⟨wo.heap.size, 0, none⟩)) (by rfl) rfl ?_ ?_
            · go_simp
            refine hK.out _ _ (⟨⟨Mem.cell_of HMa.out.box 0, Mem.cell_of HMa.out.box 1⟩, (HC.out _ HMa.out.below).1⟩) (fun hHeld => ?_)
            clear hK K
            refine norm_ (a' := ?_) ?_ ?_
            rotate_left
            · show Act.put _ (some 9) _ = _
              simp only [Act.put, List.setIfInBounds_toArray, List.set_cons_zero, List.set_cons_succ, i64_w, i32_w]
              rfl
            refine one_ (i := 6) (N := (some 46)) #[true, true, true, true, true, true, true, false, false, false, true, false, false] rfl rfl (one_of HT_.out (by kernel_rfl)) (by decide) (fun K hK => ?_)
            refine goes_ Try.func18 (by kernel_rfl) rfl #[.pointer (some ⟨g, 0, none⟩), .agg #[.int .i64 3, .slice Ay ys.length cy], .agg #[.int .i64 kd, .int .i64 a, .int .i64 b, .int .i64 x, .int .i64 p, .int .i64 mm, .slice Ai lp.length ci]] (by rfl) rfl rfl (by (try simp only [List.map_toArray, List.map_cons, List.map_nil]); first | done | rfl) ?_
            refine HP2.out.mono ?_
            rintro e w3 ⟨v3, ys3, rfl, P3, Q3, hN3, hT3, hV3, hq3, hr3, hw3⟩
            refine ⟨_, rfl, ?_⟩
            obtain ⟨A3, c3, rfl⟩ := Kd.V_slice hV3
            have HPD := Aside0.mk (HMa.out.played hN3 hT3 hV3 hq3 hr3 hw3)
            have HRD0 : Aside0 (w3.heap[wo.heap.size]? = some (.cells #[.int .i64 0, .slice none 0 0] 41 (0, 0)) ∧ Ready W0 b7 wo.heap.size ((w3.setCell ⟨wo.heap.size, 0, none⟩ (.int .i64 3)).setCell ⟨wo.heap.size, 1, none⟩ (.slice A3 ys3.length c3)) P3 g 3 _ ys3 (.slice Ay ys.length cy) (.slice A3 ys3.length c3) _) := ⟨HMd.out.ready2 hN3 hT3 hV3 hq3 hr3 hw3⟩
            have cz0 := Mem.cell_of HRD0.out.1 0
            have cz1 := Mem.cell_of HRD0.out.1 1
            have fz0 := Mem.free_of HRD0.out.1 0
            have fz1 := Mem.free_of HRD0.out.1 1
            have HRD := Aside0.mk HRD0.out.2
            clear hN3 hT3 hV3 hq3 hr3 hw3
            refine hK.out _ _ (⟨⟨Mem.cell_of HPD.out.2.2.1 0, Mem.cell_of HPD.out.2.2.1 1⟩, (HC.out _ HPD.out.2.2.2.2.2.2.2).1⟩) (fun hHeld => ?_)
            clear hK K
            refine norm_ (a' := ?_) ?_ ?_
            rotate_left
            · show Act.put _ (some 46) _ = _
              simp only [Act.put, List.setIfInBounds_toArray, List.set_cons_zero, List.set_cons_succ, i64_w, i32_w]
              rfl
            refine pure_ (i := 7) (N := (some 39)) (v := ?_) (a' := ?_) #[true, true, true, true, true, true, true, true, false, false, true, false, false] rfl rfl (any_of HT_.out (by kernel_rfl)) (fun _ _ _ h => h) (Or.inl ⟨by rfl, ?_⟩) ?_ ?_
            rotate_left
            · intro w'
              go_simp
              with_reducible rfl
            rotate_left
            · simp only [Act.put, List.setIfInBounds_toArray, List.set_cons_zero, List.set_cons_succ, i64_w, i32_w]
              rfl
            refine pure_ (i := 8) (N := (some 47)) (v := ?_) (a' := ?_) #[true, true, true, true, true, true, true, true, true, false, true, false, false] rfl rfl (any_of HT_.out (by kernel_rfl)) (fun _ _ _ h => h) (Or.inl ⟨by rfl, ?_⟩) ?_ ?_
            rotate_left
            · intro w'
              go_simp
              with_reducible rfl
            rotate_left
            · simp only [Act.put, List.setIfInBounds_toArray, List.set_cons_zero, List.set_cons_succ, i64_w, i32_w]
              rfl
            refine pure_ (i := 9) (N := (some 48)) (v := ?_) (a' := ?_) #[true, true, true, true, true, true, true, true, true, true, true, false, false] rfl rfl (any_of HT_.out (by kernel_rfl)) (fun _ _ _ h => h) (Or.inl ⟨by rfl, ?_⟩) ?_ ?_
            rotate_left
            · intro w'
              go_simp
              with_reducible rfl
            rotate_left
            · simp only [Act.put, List.setIfInBounds_toArray, List.set_cons_zero, List.set_cons_succ, i64_w, i32_w]
              rfl
            refine last_ (i := 11) (N := none) #[true, true, true, true, true, true, true, true, true, true, true, true, false] rfl rfl (one_of HT_.out (by kernel_rfl)) (by decide) (fun K hK => ?_)
            refine skip_ (w1 := (w3.setCell ⟨wo.heap.size, 0, none⟩ (.int .i64 3)).setCell ⟨wo.heap.size, 1, none⟩ (.slice A3 ys3.length c3)) (by rfl) rfl ?_ ?_
            · go_simp
            refine hK.out _ _ ?_
            clear hK K
            refine pure_ (i := 12) (N := (some 10)) (v := ?_) (a' := ?_) #[true, true, true, true, true, true, true, true, true, true, true, true, true] rfl rfl (any_of HT_.out (by kernel_rfl)) (fun _ _ _ h => h) (Or.inl ⟨by rfl, ?_⟩) ?_ ?_
            rotate_left
            · intro w'
              go_simp
              with_reducible rfl
            rotate_left
            · simp only [Act.put, List.setIfInBounds_toArray, List.set_cons_zero, List.set_cons_succ, i64_w, i32_w]
              rfl
            refine done_ (done_of HT_.out (by kernel_rfl)) ?_
            generalize (w3.setCell ⟨wo.heap.size, 0, none⟩ (.int .i64 3)).setCell ⟨wo.heap.size, 1, none⟩ (.slice A3 ys3.length c3) = w4 at HRD ⊢
            clear cz0 cz1 fz0 fz1 HPD HP1 HP2 HS HMd HMa
            generalize htt : wo.heap.size = tt at HRD ⊢
            clear htt
            have ct0 : w4.cell? ⟨tt, 0, none⟩ = some (.int .i64 3) := Mem.cell_of HRD.out.box2 0
            have ct1 := Mem.cell_of HRD.out.box2 1
            have cb0 : w4.cell? ⟨b7, 0, none⟩ = some (.int .i64 3) := Mem.cell_of HRD.out.box 0
            have cb1 := Mem.cell_of HRD.out.box 1
            have fb0 := Mem.free_of HRD.out.box 0
            have fb1 := Mem.free_of HRD.out.box 1
            have HM5 : Aside0 (Mid W0 b7 ((w4.setCell ⟨b7, 0, none⟩ (.int .i64 3)).setCell ⟨b7, 1, none⟩ (.slice A3 ys3.length c3)) P3 g 3 _ ys3 (.slice A3 ys3.length c3) _) := ⟨HRD.out.lay⟩
            clear HRD
            go_wp2
            go_roundw
            case rel =>
              exact ⟨i + 1, _, _, ys3, A3, c3, _, next_eq hw_, ⟨HLT.out⟩, HM5⟩
            case measure => exact dec_lt HLT.out hw_
        · have b4 : ((i : Int) < 200) = False := eq_false (fun h => h4 (Int.ofNat_lt.1 h))
          have b5 : (i < 200) = False := eq_false h4
          clear h4 hlt
          go_wp2_with (fail)
          go_meet
          case rel => exact ⟨_, _, _, _, _, _, HM⟩
      · have b2 : ((i : Int) < (q : Int)) = False := eq_false (fun h => hlt (Int.ofNat_lt.1 h))
        have b3 : (i < q) = False := eq_false hlt
        clear hlt
        go_wp2_with (fail)
        go_meet
        case rel => exact ⟨_, _, _, _, _, _, HM⟩
  case rest =>
    clear HM0
    obtain ⟨P, bs, ys, Ay, cy, Q, HM⟩ := hcut
    have hbx := (HM.out.below.block W.heap.size (blk_lt HBX.out)).trans HBX.out
    have cb0 : wc.cell? ⟨b7, 0, none⟩ = some (.int .i64 3) := Mem.cell_of HM.out.box 0
    have cb1 := Mem.cell_of HM.out.box 1
    have a0 := Mem.cell_of hbx 0
    have a1 := Mem.cell_of hbx 1
    have a2 := Mem.cell_of hbx 2
    have a3 := Mem.cell_of hbx 3
    have a4 := Mem.cell_of hbx 4
    have a5 := Mem.cell_of hbx 5
    have a6 := Mem.cell_of hbx 6
    have HPL := Aside0.mk (play_calls HM.out.net HM.out.tie Ay cy HM.out.view HM.out.qp kd' a' b' x' p' m' Al cl_ ll (Kd.V_below HV.out HM.out.below) (HM.out.came HV.out).2 HBL.out)
    clear hbx
    go_wp2_with (fail)
    clear cb0 cb1 a0 a1 a2 a3 a4 a5 a6
    refine HPL.out.mono ?_
    rintro e w3 ⟨v3, ys3, rfl, P3, Q3, hN3, hT3, hV3, hq3, hr3, hw3⟩
    have HN3 := Aside0.mk hN3
    have HPD := Aside0.mk (HM.out.played hN3 hT3 hV3 hq3 hr3 hw3).2.2.1
    have HB3 := Aside0.mk (HM.out.played hN3 hT3 hV3 hq3 hr3 hw3).2.2.2.2.2.2.2
    have HV3 := Aside0.mk (V_went HM.out.view hw3 HM.out.qp)
    have HT := Aside0.mk HM.out.tie
    have HYL := Aside0.mk (tie_small HM.out.tie HM.out.net.small (by decide))
    have HSM := Aside0.mk HM.out.net.small
    have HA3 := Aside0.mk ((HB3.out.block W.heap.size (blk_lt HBX.out)).trans HBX.out)
    have HOT : Aside0 (∀ s ∈ ys, ¬ (s.f0 = a' ∧ s.f1 = b') → (playF 3 bs kd' a' b' x' p' m' ll).getD (key 3 s.f0 s.f1) [] = bs.getD (key 3 s.f0 s.f1) []) := ⟨fun s hs hne => play_other (HM.out.tie.ok s hs) hne⟩
    clear hN3 hT3 hV3 hq3 hr3 hw3 HPL HM
    generalize playF 3 bs kd' a' b' x' p' m' ll = bs3 at *
    go_wp2_with (fail)
    go_loopw [11] (fun v11 wr => ∃ i : Nat, v11 = .int .i64 (i : Int) ∧ Aside0 (i ≤ ys.length) ∧ Aside0 (Below w3.heap.size w3 wr)) (fun v11 _ => ys.length - (intOf v11).toNat)
    case atStart => exact ⟨0, rfl, ⟨Nat.zero_le _⟩, ⟨Below.refl _ _⟩⟩
    case round =>
      rename World => wo
      obtain ⟨i, rfl, HI, HB⟩ := hrel
      have HPo := Aside0.mk ((HB.out.block b7 (blk_lt HPD.out)).trans HPD.out)
      have cb0 : wo.cell? ⟨b7, 0, none⟩ = some (.int .i64 3) := Mem.cell_of HPo.out 0
      have cb1 := Mem.cell_of HPo.out 1
      by_cases hlt : i < ys.length
      · obtain ⟨ad, A2, c2, hA, g0, g1, g2, g3⟩ := sent_at (Kd.V_below HV3.out HB.out) i hlt
        have hmem : ys.getD i z45 ∈ ys := by rw [List.getD_eq_getElem?_getD, List.getElem?_eq_getElem hlt]; exact List.getElem_mem hlt
        have hlk := HT.out.ok _ hmem
        have hot := HOT.out _ hmem
        generalize ys.getD i z45 = s at *
        obtain ⟨sa, sb, sf, sp⟩ := s
        dsimp only at g0 g1 g2 g3 hlk hot
        subst hA
        have HLK := Aside0.mk hlk
        have HOS := Aside0.mk hot
        have HAo := Aside0.mk ((HB.out.block W.heap.size (blk_lt HA3.out)).trans HA3.out)
        have b1 : (0 ≤ (i : Int)) = True := eq_true (Int.natCast_nonneg _)
        have b2 : ((i : Int) < (ys.length : Int)) = True := eq_true (Int.ofNat_lt.2 hlt)
        have b3 : (i < ys.length) = True := eq_true hlt
        have hw_ := wrap_top (m := i) hlt (by have := HYL.out; omega)
        have HLT := Aside0.mk hlt
        obtain ⟨W1, hW1⟩ : ∃ W1, wo.alloc (.cells #[.int .i64 sa, .int .i64 sb, .slice A2 sf.length c2, .bool sp] 45) = W1 := ⟨_, rfl⟩
        have hbz : W1.heap[wo.heap.size]? = some (.cells #[.int .i64 sa, .int .i64 sb, .slice A2 sf.length c2, .bool sp] 45 (0, 0)) := by rw [← hW1]; exact Mem.alloc_new _ _
        have hb1 : Below wo.heap.size wo W1 := by rw [← hW1]; exact below_alloc (Below.refl _ _) _
        have HBZ := Aside0.mk hbz
        have HB1 := Aside0.mk hb1
        have HP1 := Aside0.mk ((hb1.block b7 (blk_lt HPo.out)).trans HPo.out)
        have HA1 := (hb1.block W.heap.size (blk_lt HAo.out)).trans HAo.out
        have a1 := Mem.cell_of HA1 1
        have a2 := Mem.cell_of HA1 2
        have z0 := Mem.cell_of hbz 0
        have z1 := Mem.cell_of hbz 1
        clear hlt hmem hlk hot hbz hb1 HA1
        go_upto_region 15 with (fail)
        clear hW1 g0 g1 g2 g3 cb0 cb1
        go_cut [77] (fun s77 wc => s77 = .bool (decide (sa = a' ∧ sb = b')) ∧ wc = W1)
        case first =>
          by_cases e1 : sa = a'
          · have q1 : (sa == a') = true := beq_iff_eq.2 e1
            by_cases e2 : sb = b'
            · have q2 : (sb == b') = true := beq_iff_eq.2 e2
              have HE := Aside0.mk (decide_eq_true (p := sa = a' ∧ sb = b') ⟨e1, e2⟩)
              clear e1 e2
              go_wp2_with (fail)
              go_meet
              case rel => exact ⟨by rw [HE.out], rfl⟩
            · have q2 : (sb == b') = false := beq_eq_false_iff_ne.2 e2
              have HE := Aside0.mk (decide_eq_false (p := sa = a' ∧ sb = b') (fun h => e2 h.2))
              clear e1 e2
              go_wp2_with (fail)
              go_meet
              case rel => exact ⟨by rw [HE.out], rfl⟩
          · have q1 : (sa == a') = false := beq_eq_false_iff_ne.2 e1
            have HE := Aside0.mk (decide_eq_false (p := sa = a' ∧ sb = b') (fun h => e1 h.1))
            clear e1
            go_wp2_with (fail)
            go_meet
            case rel => exact ⟨by rw [HE.out], rfl⟩
        case rest =>
          obtain ⟨rfl, hwc⟩ := hcut
          subst hwc
          clear a1 a2
          by_cases he : sa = a' ∧ sb = b'
          · generalize hbb : decide (sa = a' ∧ sb = b') = bb at *
            obtain rfl : bb = true := by rw [← hbb]; exact decide_eq_true he
            clear hbb he
            have HBn := Aside0.mk (HB.out.trans (HB1.out.mono HB.out.size))
            go_wp2
            go_roundw
            case rel => exact ⟨i + 1, next_eq hw_, ⟨HLT.out⟩, HBn⟩
            case measure => exact dec_lt HLT.out hw_
          · have HSAME := Aside0.mk (HOS.out he)
            generalize hbb : decide (sa = a' ∧ sb = b') = bb at *
            obtain rfl : bb = false := by rw [← hbb]; exact decide_eq_false he
            clear hbb he
            obtain ⟨len, hlen⟩ : ∃ len, (bs.getD (key 3 sa sb) []).length = len := ⟨_, rfl⟩
            have HWT : Aside0 (waitF 3 bs3 sa sb = len) := ⟨by rw [wait_same HSAME.out]; unfold waitF; rw [if_pos HLK.out, hlen]⟩
            have HWR : Aside0 (topiaryref08_Waiting.f (ys.length + 1) 3 ys sa sb = some (len : Int)) := ⟨by rw [wait_f (Nat.le_trans HYL.out (by decide)) 3 sa sb _ (Nat.le_refl _), tie_count HT.out HLK.out, hlen]⟩
            have HLEN2 := Aside0.mk hlen
            have HSL := Aside0.mk (Nat.le_trans (Nat.le_of_eq hlen.symm) (HSM.out (key 3 sa sb)).1)
            clear hlen
            have HBd := Aside0.mk (below_drew1 HB1.out)
            have HNd := Aside0.mk ((HN3.out.below HB.out).below HBd.out)
            have HVd := Aside0.mk (Kd.V_below (Kd.V_below HV3.out HB.out) HBd.out)
            go_wp2_with (fail)
            have HS : Aside0 (wc.drew.cell? ⟨wo.heap.size, 0, none⟩ = some (.int .i64 sa) ∧ wc.drew.cell? ⟨wo.heap.size, 1, none⟩ = some (.int .i64 sb) ∧ wc.drew.cell? ⟨b7, 0, none⟩ = some (.int .i64 3) ∧ wc.drew.cell? ⟨b7, 1, none⟩ = some (.slice (some ad) ys.length cy)) := ⟨Mem.cell_of HBZ.out 0, Mem.cell_of HBZ.out 1, Mem.cell_of HP1.out 0, Mem.cell_of HP1.out 1⟩
            refine start_ (n := 13) (S := (fun w' => w'.cell? ⟨wo.heap.size, 0, none⟩ = some (.int .i64 sa) ∧ w'.cell? ⟨wo.heap.size, 1, none⟩ = some (.int .i64 sb) ∧ w'.cell? ⟨b7, 0, none⟩ = some (.int .i64 3) ∧ w'.cell? ⟨b7, 1, none⟩ = some (.slice (some ad) ys.length cy))) (ds := []) #[false, false, false, false, false, false, false, false, false, false, false, false, false] (by kernel_rfl) rfl rfl (HS.out) (fun hHeld => ?_)
            refine with_tabW baq.tab16 baq.bits16 (fun HT_ HW_ => ?_)
            refine pure_ (i := 0) (N := (some 78)) (v := ?_) (a' := ?_) #[true, false, false, false, false, false, false, false, false, false, false, false, false] rfl rfl (any_of HT_.out (by kernel_rfl)) (fun _ _ _ h => h) (Or.inl ⟨by rfl, ?_⟩) ?_ ?_
            rotate_left
            · intro w'
              go_simp
              with_reducible rfl
            rotate_left
            · simp only [Act.put, List.setIfInBounds_toArray, List.set_cons_zero, List.set_cons_succ, i64_w, i32_w]
              rfl
            refine pure_ (i := 1) (N := (some 79)) (v := ?_) (a' := ?_) #[true, true, false, false, false, false, false, false, false, false, false, false, false] rfl rfl (any_of HT_.out (by kernel_rfl)) (fun _ _ _ h => h) (Or.inl ⟨by rfl, ?_⟩) ?_ ?_
            rotate_left
            · intro w'
              go_simp
              with_reducible rfl
            rotate_left
            · simp only [Act.put, List.setIfInBounds_toArray, List.set_cons_zero, List.set_cons_succ, i64_w, i32_w]
              rfl
            refine pure_ (i := 3) (N := (some 81)) (v := ?_) (a' := ?_) #[true, true, false, true, false, false, false, false, false, false, false, false, false] rfl rfl (any_of HT_.out (by kernel_rfl)) (fun _ _ _ h => h) (Or.inl ⟨by rfl, ?_⟩) ?_ ?_
            rotate_left
            · intro w'
              go_simp
              with_reducible rfl
            rotate_left
            · simp only [Act.put, List.setIfInBounds_toArray, List.set_cons_zero, List.set_cons_succ, i64_w, i32_w]
              rfl
            refine pure_ (i := 7) (N := (some 85)) (v := ?_) (a' := ?_) #[true, true, false, true, false, false, false, true, false, false, false, false, false] rfl rfl (any_of HT_.out (by kernel_rfl)) (fun _ _ _ h => h) (Or.inl ⟨by rfl, ?_⟩) ?_ ?_
            rotate_left
            · intro w'
              go_simp
              with_reducible rfl
            rotate_left
            · simp only [Act.put, List.setIfInBounds_toArray, List.set_cons_zero, List.set_cons_succ, i64_w, i32_w]
              rfl
            refine pure_ (i := 9) (N := (some 87)) (v := ?_) (a' := ?_) #[true, true, false, true, false, false, false, true, false, true, false, false, false] rfl rfl (any_of HT_.out (by kernel_rfl)) (fun _ _ _ h => h) (Or.inl ⟨by rfl, ?_⟩) ?_ ?_
            rotate_left
            · intro w'
              go_simp
              with_reducible rfl
            rotate_left
            · simp only [Act.put, List.setIfInBounds_toArray, List.set_cons_zero, List.set_cons_succ, i64_w, i32_w]
              rfl
            refine take_ (i := 2) (N := (some 80)) (v := ?_) (a' := ?_) #[true, true, true, true, false, false, false, true, false, true, false, false, false] rfl rfl (take_ofW HT_.out HW_.out (by kernel_rfl)) (fun _ _ _ h => h) (Or.inl ⟨by rfl, ?_⟩) hHeld ?_ ?_
            rotate_left
            · rintro w' ⟨s0, s1, s2, s3⟩
              go_simp
              with_reducible rfl
            rotate_left
            · simp only [Act.put, List.setIfInBounds_toArray, List.set_cons_zero, List.set_cons_succ, i64_w, i32_w]
              rfl
            refine take_ (i := 4) (N := (some 82)) (v := ?_) (a' := ?_) #[true, true, true, true, true, false, false, true, false, true, false, false, false] rfl rfl (take_ofW HT_.out HW_.out (by kernel_rfl)) (fun _ _ _ h => h) (Or.inl ⟨by rfl, ?_⟩) hHeld ?_ ?_
            rotate_left
            · rintro w' ⟨s0, s1, s2, s3⟩
              go_simp
              with_reducible rfl
            rotate_left
            · simp only [Act.put, List.setIfInBounds_toArray, List.set_cons_zero, List.set_cons_succ, i64_w, i32_w]
              rfl
            refine take_ (i := 6) (N := (some 84)) (v := ?_) (a' := ?_) #[true, true, true, true, true, false, true, true, false, true, false, false, false] rfl rfl (take_ofW HT_.out HW_.out (by kernel_rfl)) (fun _ _ _ h => h) (Or.inl ⟨by rfl, ?_⟩) hHeld ?_ ?_
            rotate_left
            · rintro w' ⟨s0, s1, s2, s3⟩
              go_simp
              with_reducible rfl
            rotate_left
            · simp only [Act.put, List.setIfInBounds_toArray, List.set_cons_zero, List.set_cons_succ, i64_w, i32_w]
              rfl
            refine take_ (i := 8) (N := (some 86)) (v := ?_) (a' := ?_) #[true, true, true, true, true, false, true, true, true, true, false, false, false] rfl rfl (take_ofW HT_.out HW_.out (by kernel_rfl)) (fun _ _ _ h => h) (Or.inl ⟨by rfl, ?_⟩) hHeld ?_ ?_
            rotate_left
            · rintro w' ⟨s0, s1, s2, s3⟩
              go_simp
              with_reducible rfl
            rotate_left
            · simp only [Act.put, List.setIfInBounds_toArray, List.set_cons_zero, List.set_cons_succ, i64_w, i32_w]
              rfl
            refine take_ (i := 10) (N := (some 88)) (v := ?_) (a' := ?_) #[true, true, true, true, true, false, true, true, true, true, true, false, false] rfl rfl (take_ofW HT_.out HW_.out (by kernel_rfl)) (fun _ _ _ h => h) (Or.inl ⟨by rfl, ?_⟩) hHeld ?_ ?_
            rotate_left
            · rintro w' ⟨s0, s1, s2, s3⟩
              go_simp
              with_reducible rfl
            rotate_left
            · simp only [Act.put, List.setIfInBounds_toArray, List.set_cons_zero, List.set_cons_succ, i64_w, i32_w]
              rfl
            refine one_ (i := 5) (N := (some 83)) #[true, true, true, true, true, true, true, true, true, true, true, false, false] rfl rfl (one_of HT_.out (by kernel_rfl)) (by decide) (fun K hK => ?_)
            refine goes_ Try.func15 (by kernel_rfl) rfl #[.pointer (some ⟨g, 0, none⟩), .int .i64 sa, .int .i64 sb] (by rfl) rfl rfl (by (try simp only [List.map_toArray, List.map_cons, List.map_nil]); first | done | rfl) ?_
            refine (wait_calls HNd.out.i sa sb).mono ?_
            rintro e w7 ⟨rfl, ⟨nd, rfl⟩⟩
            refine ⟨_, rfl, ?_⟩
            rw [HWT.out]
            refine hK.out _ _ (HS.out) (fun hHeld => ?_)
            clear hK K
            refine norm_ (a' := ?_) ?_ ?_
            rotate_left
            · show Act.put _ (some 83) _ = _
              simp only [Act.put, List.setIfInBounds_toArray, List.set_cons_zero, List.set_cons_succ, i64_w, i32_w]
              rfl
            refine one_ (i := 11) (N := (some 89)) #[true, true, true, true, true, true, true, true, true, true, true, true, false] rfl rfl (one_of HT_.out (by kernel_rfl)) (by decide) (fun K hK => ?_)
            refine goes_ Try.func19 (by kernel_rfl) rfl #[.agg #[.int .i64 3, .slice (some ad) ys.length cy], .int .i64 sa, .int .i64 sb] (by rfl) rfl rfl (by (try simp only [List.map_toArray, List.map_cons, List.map_nil]); first | done | rfl) ?_
            have HVe := Aside0.mk (Kd.V_below HVd.out (pw_below_drewN (Below.refl _ _) nd))
            refine (topiaryref08_Waiting.calls (ys.length + 1) 3 (some ad) cy ys sa sb len _ (Kd.V_reads' HVe.out).2.2 (Kd.V_reads' HVe.out).2.1 HWR.out).mono ?_
            rintro e w8 ⟨rfl, hb8⟩
            refine ⟨_, rfl, ?_⟩
            have HB8 := Aside0.mk ((pw_below_drewN HBd.out nd).trans (hb8.mono (pw_below_drewN HBd.out nd).size))
            have HZ8 := Aside0.mk ((hb8.block wo.heap.size (blk_lt HBZ.out)).trans HBZ.out)
            clear hb8
            have HP8 := Aside0.mk ((HB8.out.block b7 (blk_lt HPo.out)).trans HPo.out)
            refine hK.out _ _ (⟨Mem.cell_of HZ8.out 0, Mem.cell_of HZ8.out 1, Mem.cell_of HP8.out 0, Mem.cell_of HP8.out 1⟩) (fun hHeld => ?_)
            clear hK K
            refine norm_ (a' := ?_) ?_ ?_
            rotate_left
            · show Act.put _ (some 89) _ = _
              simp only [Act.put, List.setIfInBounds_toArray, List.set_cons_zero, List.set_cons_succ, i64_w, i32_w]
              rfl
            refine pure_ (i := 12) (N := (some 90)) (v := ?_) (a' := ?_) #[true, true, true, true, true, true, true, true, true, true, true, true, true] rfl rfl (any_of HT_.out (by kernel_rfl)) (fun _ _ _ h => h) (Or.inl ⟨by rfl, ?_⟩) ?_ ?_
            rotate_left
            · intro w'
              go_simp
              with_reducible rfl
            rotate_left
            · simp only [Act.put, List.setIfInBounds_toArray, List.set_cons_zero, List.set_cons_succ, i64_w, i32_w]
              rfl
            refine done_ (done_of HT_.out (by kernel_rfl)) ?_
            go_wp2_with (fail)
            clear HBd HNd HVd HS HVe HP8 HP1 HBZ HB1 hHeld z0 z1
            go_loopw [13] (fun v13 wq => ∃ k : Nat, v13 = .int .i64 (k : Int) ∧ Aside0 (k ≤ len) ∧ Aside0 (Below wo.heap.size wo wq) ∧ Aside0 (wq.heap[wo.heap.size]? = some (.cells #[.int .i64 sa, .int .i64 sb, .slice A2 sf.length c2, .bool sp] 45 (0, 0)))) (fun v13 _ => len - (intOf v13).toNat)
            case atStart => exact ⟨0, rfl, ⟨Nat.zero_le _⟩, HB8, HZ8⟩
            case round =>
              rename World => wq
              clear HB8 HZ8
              obtain ⟨k, rfl, HKI, HBq, HZq⟩ := hrel
              have HPq := Aside0.mk ((HBq.out.block b7 (blk_lt HPo.out)).trans HPo.out)
              have HVq := Aside0.mk (Kd.V_below (Kd.V_below HV3.out HB.out) HBq.out)
              have HNq := Aside0.mk ((HN3.out.below HB.out).below HBq.out)
              have y0 : wq.cell? ⟨b7, 0, none⟩ = some (.int .i64 3) := Mem.cell_of HPq.out 0
              have y1 := Mem.cell_of HPq.out 1
              have x0 := Mem.cell_of HZq.out 0
              have x1 := Mem.cell_of HZq.out 1
              have HWC := Aside0.mk (topiaryref08_Waiting.calls (ys.length + 1) 3 (some ad) cy ys sa sb len wq (Kd.V_reads' HVq.out).2.2 (Kd.V_reads' HVq.out).2.1 HWR.out)
              go_wp2_with (fail)
              clear y0 y1 x0 x1
              refine HWC.out.mono ?_
              rintro e w9 ⟨rfl, hb9⟩
              have HB9 := Aside0.mk hb9
              have HZ9 := Aside0.mk ((hb9.block wo.heap.size (blk_lt HZq.out)).trans HZq.out)
              have HP9 := Aside0.mk ((hb9.block b7 (blk_lt HPq.out)).trans HPq.out)
              clear hb9 HWC
              by_cases hlt : k < len
              · have HN9 := Aside0.mk (HNq.out.below HB9.out)
                have HV9 := Aside0.mk (Kd.V_below HVq.out HB9.out)
                have hf : frameF 3 bs sa sb (k : Int) = 0 := frame_in HLK.out (by rw [HLEN2.out]; exact hlt)
                have HPK := Aside0.mk (peek_calls HN9.out.i HN9.out.small sa sb (k : Int))
                have HPR : Aside0 (∀ W, Kd.V k45 45 W 0 Q (.slice (some ad) ys.length cy) ys → Calls Try.prog 21 #[.agg #[.int .i64 3, .slice (some ad) ys.length cy], .int .i64 sa, .int .i64 sb, .int .i64 (k : Int)] W fun e w' => ∃ v0, e = .returned (.tuple #[v0, .int .i64 (peekF 3 bs sa sb (k : Int)).2]) ∧ Kd.V (Kd.int .u8) 5 w' W.heap.size (fun k_ => Q k_ ∨ W.heap.size ≤ k_) v0 (peekF 3 bs sa sb (k : Int)).1 ∧ Below W.heap.size W w') :=
                  ⟨fun W hW => topiaryref08_Peek.calls (2 * ys.length + 2) 3 Q (some ad) cy ys sa sb (k : Int) _ _ W (V_base hW) (peek_f HT.out HYL.out sa sb (k : Int) _ (Nat.le_refl _))⟩
                rw [peek_same HSAME.out] at HPK
                rw [peek_frame, hf] at HPK HPR
                generalize (peekF 3 bs sa sb (k : Int)).1 = pl at *
                have b4 : (k < len) = True := eq_true hlt
                have b5 : ((k : Int) < (len : Int)) = True := eq_true (Int.ofNat_lt.2 hlt)
                have hw4 := wrap_next (m := k) (Nat.le_trans (Nat.le_of_lt hlt) (Nat.le_trans HSL.out (by decide)))
                have HKL := Aside0.mk hlt
                clear hf hlt
                have x0 := Mem.cell_of HZ9.out 0
                have x1 := Mem.cell_of HZ9.out 1
                go_wp2_with (fail)
                refine HPK.out.mono ?_
                rintro e w10 ⟨v7, rfl, hr7, hb7⟩
                obtain ⟨A7, c7, rfl⟩ := Kd.R_slice hr7
                have HX7 := Aside0.mk (Kd.R_V (base' := 0) hr7)
                have HVa := Aside0.mk (Kd.V_below HV9.out hb7)
                have HBa := Aside0.mk (HB9.out.trans (hb7.mono HB9.out.size))
                have HZa := Aside0.mk ((hb7.block wo.heap.size (blk_lt HZ9.out)).trans HZ9.out)
                have HPa := Aside0.mk ((hb7.block b7 (blk_lt HP9.out)).trans HP9.out)
                clear hr7 hb7 HPK x0 x1
                have y0 : w10.cell? ⟨b7, 0, none⟩ = some (.int .i64 3) := Mem.cell_of HPa.out 0
                have y1 := Mem.cell_of HPa.out 1
                have x0 := Mem.cell_of HZa.out 0
                have x1 := Mem.cell_of HZa.out 1
                go_wp2_with (fail)
                refine (HPR.out w10 HVa.out).mono ?_
                rintro e w11 ⟨v8, rfl, hv8, hb8⟩
                obtain ⟨A8, c8, rfl⟩ := Kd.V_slice hv8
                have cv1 := str_of (Kd.V_below HX7.out hb8)
                have cv2 := str_of (V_base hv8)
                have HZb := Aside0.mk ((hb8.block wo.heap.size (blk_lt HZa.out)).trans HZa.out)
                have HBb := Aside0.mk (HBq.out.trans ((HBa.out.trans (hb8.mono HBa.out.size)).mono HBq.out.size))
                clear hv8 hb8 HPR y0 y1 x0 x1
                go_wp2
                go_roundw
                case rel => exact ⟨k + 1, next_eq hw4, ⟨HKL.out⟩, HBb, HZb⟩
                case measure => exact dec_lt HKL.out hw4
              · have b4 : (k < len) = False := eq_false hlt
                have b5 : ((k : Int) < (len : Int)) = False := eq_false (fun h => hlt (Int.ofNat_lt.1 h))
                have HBn := Aside0.mk (HB.out.trans ((HBq.out.trans (HB9.out.mono HBq.out.size)).mono HB.out.size))
                clear hlt
                go_wp2
                go_roundw
                case rel => exact ⟨i + 1, next_eq hw_, ⟨HLT.out⟩, HBn⟩
                case measure => exact dec_lt HLT.out hw_
      · have b2 : ((i : Int) < (ys.length : Int)) = False := eq_false (fun h => hlt (Int.ofNat_lt.1 h))
        have b3 : (i < ys.length) = False := eq_false hlt
        clear hlt
        have HAW := Aside0.mk (awake_calls wo)
        go_wp2_with (fail)
        refine HAW.out.mono ?_
        rintro e w' ⟨rfl, hb⟩
        have HBn := Aside0.mk (HB0.out.trans ((HB3.out.trans ((HB.out.trans (hb.mono HB.out.size)).mono HB3.out.size)).mono HB0.out.size))
        clear hb HAW
        go_wp2
        go_ret
        exact ⟨rfl, HBn.out⟩
end Go.Proofs.Ytchepjbdaojidaa.PBags
