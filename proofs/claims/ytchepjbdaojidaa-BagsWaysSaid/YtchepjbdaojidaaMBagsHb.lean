/- The net in memory: Deliver, Double, Spoil, Ways, Len, Clone keep it. -/
import Derived.Test.YtchepjbdaojidaaMBagsHa
import Derived.Test.YtchepjbdaojidaaMBagsXa
import Derived.RangeFuncNested
import Derived.RangeFuncBound
import Derived.RangeFuncCalls
import Derived.RangeFuncLeaves
import Derived.RangeFuncBox
import Derived.Shelf.Abstract
import Derived.Shelf.RegionOpen
import Derived.WalkKit
import Derived.OwnWalkIn
import Derived.TacticsInMore
import Derived.LoopNIn
import Derived.LoopIn
namespace Go.Proofs.Ytchepjbdaojidaa.PBags
open Go.RowKit Go.Proofs.YtchepjbdaojidaaW.PrintWords Go.Proofs.YtchepjbdaojidaaW.PrintLast Go.Proofs.YtchepjbdaojidaaW.PrintMore
attribute [local go_sem] max2_int min2_int max_two min_two max_three min_three max_four min_four
set_option linter.unusedVariables false
set_option linter.unusedSimpArgs false
def dbl.T4 : Bool × List (List Nat × List Nat) := (true, [([], []), ([], []), ([], []), ([], []), ([3], [3]), ([4], [4]), ([5], [5]), ([], []), ([], []), ([8], [8]), ([9], [9]), ([10], [10]), ([7, 11], [7, 11]), ([], []), ([12, 13], [12, 13]), ([6, 14], [6, 14]), ([15], [15]), ([], []), ([16, 17], [16, 17]), ([18], [18]), ([0, 1, 2, 19], [0, 1, 2, 19]), ([20, 20, 0, 1, 2, 3, 4, 5, 6, 7, 8, 9, 10, 11, 12, 13, 14, 15, 16, 17, 18, 19, 20], [20])])
def dbl.B4 : List Nat := [0, 0, 0, 0, 8, 24, 56, 0, 0, 256, 768, 1792, 3968, 0, 16256, 32760, 65528, 0, 262136, 524280, 1048575, 2097151]
theorem dbl.tab4 : rtab .any (opsOf Try.f14 4) = dbl.T4 := by kernel_rfl
theorem dbl.bits4 : waitsOk dbl.T4.2 dbl.B4 = true := by kernel_rfl
/-- A net in memory: P are its blocks, all of its own. -/
structure Net (w : World) (P : Nat → Prop) (g n : Nat) (bs : List (List Frame)) : Prop where
  i : NetI w 0 P g n bs
  small : Small bs
  lt : ∀ k, P k → k < w.heap.size
/-- From w to w' the blocks P were written; P' are those, or new. -/
structure Went (w : World) (P : Nat → Prop) (w' : World) (P' : Nat → Prop) : Prop where
  kept : Kept w w' P
  new : ∀ k, P' k → P k ∨ w.heap.size ≤ k
theorem Went.refl (w : World) (P : Nat → Prop) : Went w P w P := ⟨Kept.refl w P, fun _ h => .inl h⟩
theorem Went.trans {w w1 w2 : World} {P P1 P2 : Nat → Prop} (h : Went w P w1 P1) (k : Went w1 P1 w2 P2) : Went w P w2 P2 :=
  ⟨h.kept.then_ k.kept h.new, fun q hq => (k.new q hq).elim (h.new q) (fun h2 => .inr (Nat.le_trans h.kept.1 h2))⟩
theorem Went.below {w w1 : World} (h : Below w.heap.size w w1) (P : Nat → Prop) : Went w P w1 P := ⟨Kept.of_below h P, fun _ h => .inl h⟩
theorem NetI.lower {w : World} {base : Nat} {P : Nat → Prop} {g n : Nat} {bs : List (List Frame)} (h : NetI w base P g n bs) : NetI w 0 (fun k => P k ∧ k < w.heap.size) g n bs := by
  obtain ⟨A, c, h1, h2, h3, h4, h5, h6, h7⟩ := h
  exact ⟨A, c, h1, Nat.zero_le _, ⟨h3, blk_lt h1⟩, h4, h5, h6, Kd.S_lower (Kd.S_mono (Kd.S_bound h7) (fun k hk => ⟨⟨hk.1.1, hk.2.2.1⟩, hk.1.2⟩)) (Nat.zero_le _)⟩
theorem Net.of {w : World} {base : Nat} {P : Nat → Prop} {g n : Nat} {bs : List (List Frame)} (h : NetI w base P g n bs) (hs : Small bs) : Net w (fun k => P k ∧ k < w.heap.size) g n bs := ⟨h.lower, hs, fun _ h => h.2⟩
theorem Net.below {w w1 : World} {P : Nat → Prop} {g n : Nat} {bs : List (List Frame)} (h : Net w P g n bs) (hb : Below w.heap.size w w1) : Net w1 P g n bs := ⟨h.i.below hb, h.small, fun k hk => Nat.lt_of_lt_of_le (h.lt k hk) hb.size⟩
theorem Went.done {w w' : World} {P P' : Nat → Prop} (h : Kept w w' P) (hn : ∀ k, P' k → P k ∨ w.heap.size ≤ k) : Went w P w' (fun k => P' k ∧ k < w'.heap.size) := ⟨h, fun k hk => hn k hk.1⟩
/-- What leads to no block of the net stays as it is. -/
theorem V_went {α : Type} {d : Kd α} {e base : Nat} {ok : Nat → Prop} {w w' : World} {P P' : Nat → Prop} {v : Value} {xs : List α} (h : Kd.V d e w base ok v xs) (hw : Went w P w' P') (ha : ∀ k, ok k → ¬ P k) : Kd.V d e w' base ok v xs := Kd.V_kept h hw.kept ha
theorem Went.apart {w w' : World} {P P' ok : Nat → Prop} (hw : Went w P w' P') (ha : ∀ k, ok k → ¬ P k) (hl : ∀ k, ok k → k < w.heap.size) : ∀ k, ok k → ¬ P' k := fun k hk hp => (hw.new k hp).elim (ha k hk) (fun h => by have := hl k hk; omega)
theorem Small.set {bs : List (List Frame)} (h : Small bs) (k : Nat) {xs : List Frame} (h1 : xs.length ≤ 256) (h2 : ∀ f ∈ xs, f.1.length ≤ 65545) : Small (bs.set k xs) := by
  intro q
  by_cases c : k = q
  · subst c
    by_cases c2 : k < bs.length
    · rw [List.getD_eq_getElem?_getD, List.getElem?_set_self c2]; exact ⟨h1, h2⟩
    · rw [List.getD_eq_getElem?_getD, List.getElem?_eq_none (by rw [List.length_set]; omega)]
      exact ⟨Nat.zero_le _, fun f hf => by cases hf⟩
  · rw [List.getD_eq_getElem?_getD, List.getElem?_set_ne c, ← List.getD_eq_getElem?_getD]; exact h q
theorem Small.put {n : Nat} {bs : List (List Frame)} (h : Small bs) (a b : Int) (f : Frame) : Small (putF n bs a b f).2 := by
  unfold putF
  split
  · split
    · exact h
    · split
      · exact h
      · refine h.set _ ?_ ?_
        · have := (h (key n a b)).1
          rw [List.length_append, List.length_singleton]; omega
        · intro f' hf'
          rcases List.mem_append.1 hf' with hf' | hf'
          · exact (h _).2 f' hf'
          · rw [List.mem_singleton.1 hf']; omega
  · exact h
theorem Small.lose {n : Nat} {bs : List (List Frame)} (h : Small bs) (a b x : Int) : Small (loseF n bs a b x).2 := by
  unfold loseF
  split
  · refine h.set _ (Nat.le_trans (List.length_eraseIdx_le _ _) (h _).1) (fun f hf => (h _).2 f (List.mem_of_mem_eraseIdx hf))
  · exact h
theorem Net.put {w : World} {P : Nat → Prop} {g n : Nat} {bs : List (List Frame)} (h : Net w P g n bs) (a b : Int) (A : Option Addr) (c : Nat) (l : List Int) (sp : Bool) (hf : Kd.C (Kd.int .u8) w A l.length l) (hc : l.length ≤ c) :
    Calls Try.prog 29 #[.pointer (some ⟨g, 0, none⟩), .int .i64 a, .int .i64 b, .agg #[.slice A l.length c, .bool sp]] w fun e w' => ∃ P', e = .returned (.int .i64 (putF n bs a b (l, sp)).1) ∧ Net w' P' g n (putF n bs a b (l, sp)).2 ∧ Went w P w' P' := by
  refine (put_calls h.i a b A c l sp hf hc (h.small _).1).mono ?_
  rintro e w' ⟨he, h1, h2⟩
  exact ⟨_, he, Net.of h1 (h.small.put a b _), Went.done h2 (fun _ hk => hk)⟩
theorem Net.send {w : World} {P : Nat → Prop} {g n : Nat} {bs : List (List Frame)} (h : Net w P g n bs) (a b : Int) (A : Option Addr) (c : Nat) (l : List Int) (hf : Kd.C (Kd.int .u8) w A l.length l) (hc : l.length ≤ c) :
    Calls Try.prog 11 #[.pointer (some ⟨g, 0, none⟩), .int .i64 a, .int .i64 b, .slice A l.length c] w fun e w' => ∃ P', e = .returned (.int .i64 (putF n bs a b (l, false)).1) ∧ Net w' P' g n (putF n bs a b (l, false)).2 ∧ Went w P w' P' := by
  refine (send_calls h.i a b A c l hf hc (h.small _).1).mono ?_
  rintro e w' ⟨he, h1, h2⟩
  exact ⟨_, he, Net.of h1 (h.small.put a b _), Went.done h2 (fun _ hk => hk)⟩
theorem Net.lose {w : World} {P : Nat → Prop} {g n : Nat} {bs : List (List Frame)} (h : Net w P g n bs) (a b x : Int) :
    Calls Try.prog 17 #[.pointer (some ⟨g, 0, none⟩), .int .i64 a, .int .i64 b, .int .i64 x] w fun e w' => e = .returned (.int .i64 (loseF n bs a b x).1) ∧ Net w' P g n (loseF n bs a b x).2 ∧ Kept w w' P := by
  refine (lose_calls h.i a b x (h.small _).1).mono ?_
  rintro e w' ⟨he, h1, h2⟩
  exact ⟨he, ⟨h1, h.small.lose a b x, fun k hk => Nat.lt_of_lt_of_le (h.lt k hk) h2.1⟩, h2⟩
theorem Net.new (w : World) (n : Nat) (h1 : 1 ≤ n) (h64 : n ≤ 64) : Calls Try.prog 10 #[.int .i64 (n : Int)] w fun e w' => ∃ g P', e = .returned (.tuple #[.pointer (some ⟨g, 0, none⟩), .int .i64 0]) ∧ Net w' P' g n (List.replicate (n * n) []) ∧ Went w (fun _ => False) w' P' := by
  refine (new_calls w n h1 h64).mono ?_
  rintro e w' ⟨g, he, h1, h2⟩
  refine ⟨g, _, he, Net.of h1 ?_, Went.done (Kept.of_below h2 _) (fun k hk => .inr hk)⟩
  intro k
  have e : (List.replicate (n * n) ([] : List Frame)).getD k [] = [] := by
    rw [List.getD_eq_getElem?_getD]
    by_cases c : k < n * n
    · rw [List.getElem?_replicate, if_pos c]; rfl
    · rw [List.getElem?_eq_none (by rw [List.length_replicate]; omega)]; rfl
  rw [e]
  exact ⟨Nat.zero_le _, fun f hf => by cases hf⟩
def deliverF (n : Nat) (bs : List (List Frame)) (a b x : Int) : (List Int × Int) × List (List Frame) := (peekF n bs a b x, (loseF n bs a b x).2)
set_option maxHeartbeats 4000000 in
set_option maxRecDepth 100000 in
theorem Net.deliver {w : World} {P : Nat → Prop} {g n : Nat} {bs : List (List Frame)} (h : Net w P g n bs) (a b x : Int) :
    Calls Try.prog 16 #[.pointer (some ⟨g, 0, none⟩), .int .i64 a, .int .i64 b, .int .i64 x] w fun e w' => ∃ v P', e = .returned (.tuple #[v, .int .i64 (peekF n bs a b x).2]) ∧ Net w' P' g n (loseF n bs a b x).2 ∧ Went w P w' P' ∧ (Kd.int .u8).R 5 w' w.heap.size (fun k => ¬ P' k) v (peekF n bs a b x).1 := by
  have HP := Aside0.mk (peek_calls h.i h.small a b x)
  have HH := Aside0.mk h
  unfold peekF at HP ⊢
  unfold loseF
  by_cases c : frameF n bs a b x = 0
  · rw [if_pos c] at HP
    rw [if_pos c, if_pos c]
    have C := Aside0.mk c
    clear c h
    go_enter Try.func16, Try.ntmps16
    go_wp2_with (fail)
    refine HP.out.mono ?_
    rintro e w1 ⟨v, rfl, hR, hB⟩
    have HR1 := Aside0.mk hR
    have HB1 := Aside0.mk hB
    have HL := Aside0.mk ((HH.out.below hB).lose a b x)
    clear hR hB HP
    unfold loseF at HL
    rw [if_pos C.out] at HL
    go_wp2_with (fail)
    refine HL.out.mono ?_
    rintro e w2 ⟨rfl, h2, hk2⟩
    have H2 := Aside0.mk h2
    have HK2 := Aside0.mk hk2
    clear h2 hk2 HL
    go_wp2
    go_ret2
    exact ⟨v, P, rfl, H2.out, ⟨(Kept.refl w P).below HB1.out |>.then_ HK2.out (fun _ h => .inl h), fun _ h => .inl h⟩,
      Kd.R_kept (Kd.R_mono (Kd.R_reok rfl HR1.out (ok := fun k => w.heap.size ≤ k) (Kd.R_base HR1.out)) (fun k hk hp => by have := HH.out.lt k hp; omega)) HK2.out (fun k hk hp => hk hp)⟩
  · rw [if_neg c] at HP
    rw [if_neg c, if_neg c]
    have e1 : (frameF n bs a b x == 0) = false := by rw [beq_eq_false_iff_ne]; exact c
    have C := Aside0.mk c
    clear c h
    go_enter Try.func16, Try.ntmps16
    go_wp2_with (fail)
    refine HP.out.mono ?_
    rintro e w1 ⟨v, rfl, hR, hB⟩
    have HR1 := Aside0.mk hR
    have HB1 := Aside0.mk hB
    clear hR hB HP
    go_wp2
    go_ret2
    exact ⟨v, P, rfl, HH.out.below HB1.out, Went.below HB1.out P, Kd.R_mono (Kd.R_reok rfl HR1.out (ok := fun k => w.heap.size ≤ k) (Kd.R_base HR1.out)) (fun k hk hp => by have := HH.out.lt k hp; omega)⟩
def doubleF (n : Nat) (bs : List (List Frame)) (a b x : Int) : Int × List (List Frame) := if frameF n bs a b x = 0 then putF n bs a b ((bs.getD (key n a b) []).getD x.toNat ([], false)) else (frameF n bs a b x, bs)
theorem Small.double {n : Nat} {bs : List (List Frame)} (h : Small bs) (a b x : Int) : Small (doubleF n bs a b x).2 := by
  unfold doubleF
  split
  · exact h.put a b _
  · exact h
set_option maxHeartbeats 8000000 in
set_option maxRecDepth 100000 in
theorem Net.double {w : World} {P : Nat → Prop} {g n : Nat} {bs : List (List Frame)} (h : Net w P g n bs) (a b x : Int) :
    Calls Try.prog 14 #[.pointer (some ⟨g, 0, none⟩), .int .i64 a, .int .i64 b, .int .i64 x] w fun e w' => ∃ P', e = .returned (.int .i64 (doubleF n bs a b x).1) ∧ Net w' P' g n (doubleF n bs a b x).2 ∧ Went w P w' P' := by
  have HFR := Aside0.mk (frame_calls h.i a b x)
  have HH := Aside0.mk h
  unfold doubleF
  by_cases c0 : frameF n bs a b x = 0
  case neg =>
    rw [if_neg c0]
    have e1 : (frameF n bs a b x != 0) = true := by rw [bne_iff_ne]; exact c0
    have C := Aside0.mk c0
    clear c0 h
    go_enter Try.func14, Try.ntmps14
    go_wp2_with (fail)
    refine HFR.out.mono ?_
    rintro e w' ⟨rfl, ⟨nd, rfl⟩⟩
    go_wp2
    go_ret
    have hb := pw_below_drewN (Below.refl w.heap.size w) nd
    exact ⟨P, rfl, HH.out.below hb, Went.below hb P⟩
  rw [if_pos c0]
  rw [c0] at HFR
  obtain ⟨cl, q, rfl, hq⟩ := frameF_ok c0
  clear c0
  obtain ⟨i, j, rfl, rfl, hi, hj, hij⟩ := linkF_ok cl
  clear cl
  have hn := h.i.size.2.2
  have hk : key n (i : Int) (j : Int) = i * n + j := by unfold key; rw [Int.toNat_natCast, Int.toNat_natCast]
  rw [hk] at hq ⊢
  rw [Int.toNat_natCast]
  obtain ⟨B, cc, Ak, ck, oki, HL, hle, hR⟩ := h.i.lend (i * n + j) (key_lt hi hj)
  have hm := keep_le hi hn
  have hkl := key_lt hi hj
  have hw1 : wrap64 ((i : Int) * (n : Int)) = ((i * n : Nat) : Int) := by rw [← Int.natCast_mul]; exact wrap_nat (Nat.le_trans hm (by decide))
  have hw2 : wrap64 (((i * n : Nat) : Int) + (j : Int)) = ((i * n + j : Nat) : Int) := by rw [← Int.natCast_add]; exact wrap_nat (Nat.le_trans (Nat.add_le_add hm (Nat.le_trans (Nat.le_of_lt hj) hn)) (by decide))
  have b1 : (0 ≤ ((i * n + j : Nat) : Int)) = True := eq_true (Int.natCast_nonneg _)
  have b2 : (((i * n + j : Nat) : Int) < ((n * n : Nat) : Int)) = True := eq_true (Int.ofNat_lt.2 hkl)
  have b3 : (i * n + j < n * n) = True := eq_true hkl
  have q1 := Mem.cell_of HL.net 1
  have q0 := Mem.cell_of HL.net 0
  have qB := HL.cell
  rw [show (#[Value.int .i64 (n : Int), .slice (some ⟨B, 0, none⟩) (n * n) cc] : Array Value)[1]? = some (.slice (some ⟨B, 0, none⟩) (n * n) cc) from rfl] at q1
  rw [show (#[Value.int .i64 (n : Int), .slice (some ⟨B, 0, none⟩) (n * n) cc] : Array Value)[0]? = some (.int .i64 (n : Int)) from rfl] at q0
  obtain ⟨gk, Af, cf, rfl, qf, qs, hlf, hCf⟩ := bag_frame hR q hq
  have b4 : (0 ≤ (q : Int)) = True := eq_true (Int.natCast_nonneg _)
  have b5 : ((q : Int) < ((bs.getD (i * n + j) []).length : Int)) = True := eq_true (Int.ofNat_lt.2 hq)
  have b6 : (q < (bs.getD (i * n + j) []).length) = True := eq_true hq
  have HCF := Aside0.mk hCf
  have HLF := Aside0.mk hlf
  clear HL hR hk hm hij hCf h hlf
  generalize ((bs.getD (i * n + j) []).getD q ([], false)) = f at *
  generalize (bs.getD (i * n + j) []).length = len at *
  obtain ⟨nn, hnn⟩ : ∃ nn, n * n = nn := ⟨_, rfl⟩
  rw [hnn] at q1 b2 b3
  clear hnn hkl
  generalize i * n = mm at *
  generalize mm + j = kk at *
  obtain ⟨l, sp⟩ := f
  go_enter Try.func14, Try.ntmps14
  go_wp2_with (fail)
  refine HFR.out.mono ?_
  rintro e w' ⟨rfl, ⟨nd, rfl⟩⟩
  go_wp2_with (fail)
  have HS : Aside0 ((w.drewN nd).drew.cell? ⟨g, 1, none⟩ = _ ∧ (w.drewN nd).drew.cell? ⟨g, 0, none⟩ = _ ∧ (w.drewN nd).drew.cell? ⟨B, kk, none⟩ = _ ∧ (w.drewN nd).drew.cell? ⟨gk, q * 2, none⟩ = _ ∧ (w.drewN nd).drew.cell? ⟨gk, q * 2 + 1, none⟩ = _) := ⟨q1, q0, qB, qf, qs⟩
  have HB : Aside0 (Below w.heap.size w (w.drewN nd).drew) := ⟨below_drew1 (pw_below_drewN (Below.refl _ _) nd)⟩
  have HCW := Aside0.mk (Kd.C_below HCF.out HB.out)
  have HHW := Aside0.mk (HH.out.below HB.out)
  clear HH HFR HCF
  refine start_ (n := 22) (S := (fun w' => w'.cell? ⟨g, 1, none⟩ = some (.slice (some ⟨B, 0, none⟩) nn cc) ∧ w'.cell? ⟨g, 0, none⟩ = some (.int .i64 (n : Int)) ∧ w'.cell? ⟨B, kk, none⟩ = some (.slice (some ⟨gk, 0, none⟩) len ck) ∧ w'.cell? ⟨gk, q * 2, none⟩ = some (.slice Af l.length cf) ∧ w'.cell? ⟨gk, q * 2 + 1, none⟩ = some (.bool sp))) (ds := [20]) #[false, false, false, false, false, false, false, false, false, false, false, false, false, false, false, false, false, false, false, false, false, false] (by kernel_rfl) rfl rfl (HS.out) (fun hHeld => ?_)
  refine with_tabW dbl.tab4 dbl.bits4 (fun HT_ HW_ => ?_)
  refine pure_ (i := 0) (N := (some 18)) (v := ?_) (a' := ?_) #[true, false, false, false, false, false, false, false, false, false, false, false, false, false, false, false, false, false, false, false, false, false] rfl rfl (any_of HT_.out (by kernel_rfl)) (fun _ _ _ h => h) (Or.inl ⟨by rfl, ?_⟩) ?_ ?_
  rotate_left
  · intro w'
    go_simp
    with_reducible rfl
  rotate_left
  · simp only [Act.put, List.setIfInBounds_toArray, List.set_cons_zero, List.set_cons_succ, i64_w, i32_w]
    rfl
  refine pure_ (i := 1) (N := (some 19)) (v := ?_) (a' := ?_) #[true, true, false, false, false, false, false, false, false, false, false, false, false, false, false, false, false, false, false, false, false, false] rfl rfl (any_of HT_.out (by kernel_rfl)) (fun _ _ _ h => h) (Or.inl ⟨by rfl, ?_⟩) ?_ ?_
  rotate_left
  · intro w'
    go_simp
    with_reducible rfl
  rotate_left
  · simp only [Act.put, List.setIfInBounds_toArray, List.set_cons_zero, List.set_cons_succ, i64_w, i32_w]
    rfl
  refine pure_ (i := 2) (N := (some 20)) (v := ?_) (a' := ?_) #[true, true, true, false, false, false, false, false, false, false, false, false, false, false, false, false, false, false, false, false, false, false] rfl rfl (any_of HT_.out (by kernel_rfl)) (fun _ _ _ h => h) (Or.inl ⟨by rfl, ?_⟩) ?_ ?_
  rotate_left
  · intro w'
    go_simp
    with_reducible rfl
  rotate_left
  · simp only [Act.put, List.setIfInBounds_toArray, List.set_cons_zero, List.set_cons_succ, i64_w, i32_w]
    rfl
  refine pure_ (i := 3) (N := (some 21)) (v := ?_) (a' := ?_) #[true, true, true, true, false, false, false, false, false, false, false, false, false, false, false, false, false, false, false, false, false, false] rfl rfl (any_of HT_.out (by kernel_rfl)) (fun _ _ _ h => h) (Or.inl ⟨by rfl, ?_⟩) ?_ ?_
  rotate_left
  · intro w'
    go_simp
    with_reducible rfl
  rotate_left
  · simp only [Act.put, List.setIfInBounds_toArray, List.set_cons_zero, List.set_cons_succ, i64_w, i32_w]
    rfl
  refine pure_ (i := 4) (N := (some 22)) (v := ?_) (a' := ?_) #[true, true, true, true, true, false, false, false, false, false, false, false, false, false, false, false, false, false, false, false, false, false] rfl rfl (any_of HT_.out (by kernel_rfl)) (fun _ _ _ h => h) (Or.inl ⟨by rfl, ?_⟩) ?_ ?_
  rotate_left
  · intro w'
    go_simp
    with_reducible rfl
  rotate_left
  · simp only [Act.put, List.setIfInBounds_toArray, List.set_cons_zero, List.set_cons_succ, i64_w, i32_w]
    rfl
  refine pure_ (i := 5) (N := (some 23)) (v := ?_) (a' := ?_) #[true, true, true, true, true, true, false, false, false, false, false, false, false, false, false, false, false, false, false, false, false, false] rfl rfl (any_of HT_.out (by kernel_rfl)) (fun _ _ _ h => h) (Or.inl ⟨by rfl, ?_⟩) ?_ ?_
  rotate_left
  · intro w'
    go_simp
    with_reducible rfl
  rotate_left
  · simp only [Act.put, List.setIfInBounds_toArray, List.set_cons_zero, List.set_cons_succ, i64_w, i32_w]
    rfl
  refine pure_ (i := 7) (N := (some 25)) (v := ?_) (a' := ?_) #[true, true, true, true, true, true, false, true, false, false, false, false, false, false, false, false, false, false, false, false, false, false] rfl rfl (any_of HT_.out (by kernel_rfl)) (fun _ _ _ h => h) (Or.inl ⟨by rfl, ?_⟩) ?_ ?_
  rotate_left
  · intro w'
    go_simp
    with_reducible rfl
  rotate_left
  · simp only [Act.put, List.setIfInBounds_toArray, List.set_cons_zero, List.set_cons_succ, i64_w, i32_w]
    rfl
  refine pure_ (i := 8) (N := (some 26)) (v := ?_) (a' := ?_) #[true, true, true, true, true, true, false, true, true, false, false, false, false, false, false, false, false, false, false, false, false, false] rfl rfl (any_of HT_.out (by kernel_rfl)) (fun _ _ _ h => h) (Or.inl ⟨by rfl, ?_⟩) ?_ ?_
  rotate_left
  · intro w'
    go_simp
    with_reducible rfl
  rotate_left
  · simp only [Act.put, List.setIfInBounds_toArray, List.set_cons_zero, List.set_cons_succ, i64_w, i32_w]
    rfl
  refine pure_ (i := 9) (N := (some 27)) (v := ?_) (a' := ?_) #[true, true, true, true, true, true, false, true, true, true, false, false, false, false, false, false, false, false, false, false, false, false] rfl rfl (any_of HT_.out (by kernel_rfl)) (fun _ _ _ h => h) (Or.inl ⟨by rfl, ?_⟩) ?_ ?_
  rotate_left
  · intro w'
    go_simp
    with_reducible rfl
  rotate_left
  · simp only [Act.put, List.setIfInBounds_toArray, List.set_cons_zero, List.set_cons_succ, i64_w, i32_w]
    rfl
  refine pure_ (i := 10) (N := (some 28)) (v := ?_) (a' := ?_) #[true, true, true, true, true, true, false, true, true, true, true, false, false, false, false, false, false, false, false, false, false, false] rfl rfl (any_of HT_.out (by kernel_rfl)) (fun _ _ _ h => h) (Or.inl ⟨by rfl, ?_⟩) ?_ ?_
  rotate_left
  · intro w'
    go_simp
    with_reducible rfl
  rotate_left
  · simp only [Act.put, List.setIfInBounds_toArray, List.set_cons_zero, List.set_cons_succ, i64_w, i32_w]
    rfl
  refine pure_ (i := 13) (N := (some 31)) (v := ?_) (a' := ?_) #[true, true, true, true, true, true, false, true, true, true, true, false, false, true, false, false, false, false, false, false, false, false] rfl rfl (any_of HT_.out (by kernel_rfl)) (fun _ _ _ h => h) (Or.inl ⟨by rfl, ?_⟩) ?_ ?_
  rotate_left
  · intro w'
    go_simp
    with_reducible rfl
  rotate_left
  · simp only [Act.put, List.setIfInBounds_toArray, List.set_cons_zero, List.set_cons_succ, i64_w, i32_w]
    rfl
  refine pure_ (i := 17) (N := (some 35)) (v := ?_) (a' := ?_) #[true, true, true, true, true, true, false, true, true, true, true, false, false, true, false, false, false, true, false, false, false, false] rfl rfl (any_of HT_.out (by kernel_rfl)) (fun _ _ _ h => h) (Or.inl ⟨by rfl, ?_⟩) ?_ ?_
  rotate_left
  · intro w'
    go_simp
    with_reducible rfl
  rotate_left
  · simp only [Act.put, List.setIfInBounds_toArray, List.set_cons_zero, List.set_cons_succ, i64_w, i32_w]
    rfl
  refine take_ (i := 6) (N := (some 24)) (v := ?_) (a' := ?_) #[true, true, true, true, true, true, true, true, true, true, true, false, false, true, false, false, false, true, false, false, false, false] rfl rfl (take_ofW HT_.out HW_.out (by kernel_rfl)) (fun _ _ _ h => h) (Or.inl ⟨by rfl, ?_⟩) hHeld ?_ ?_
  rotate_left
  · rintro w' ⟨s0, s1, s2, s3, s4⟩
    go_simp
    with_reducible rfl
  rotate_left
  · simp only [Act.put, List.setIfInBounds_toArray, List.set_cons_zero, List.set_cons_succ, i64_w, i32_w]
    rfl
  refine take_ (i := 11) (N := (some 29)) (v := ?_) (a' := ?_) #[true, true, true, true, true, true, true, true, true, true, true, true, false, true, false, false, false, true, false, false, false, false] rfl rfl (take_ofW HT_.out HW_.out (by kernel_rfl)) (fun _ _ _ h => h) (Or.inl ⟨by rfl, ?_⟩) hHeld ?_ ?_
  rotate_left
  · rintro w' ⟨s0, s1, s2, s3, s4⟩
    go_simp
    with_reducible rfl
  rotate_left
  · simp only [Act.put, List.setIfInBounds_toArray, List.set_cons_zero, List.set_cons_succ, i64_w, i32_w]
    rfl
  refine pure_ (i := 12) (N := (some 30)) (v := ?_) (a' := ?_) #[true, true, true, true, true, true, true, true, true, true, true, true, true, true, false, false, false, true, false, false, false, false] rfl rfl (any_of HT_.out (by kernel_rfl)) (fun _ _ _ h => h) (Or.inl ⟨by rfl, ?_⟩) ?_ ?_
  rotate_left
  · intro w'
    go_simp
    with_reducible rfl
  rotate_left
  · simp only [Act.put, List.setIfInBounds_toArray, List.set_cons_zero, List.set_cons_succ, i64_w, i32_w]
    rfl
  refine pure_ (i := 14) (N := (some 32)) (v := ?_) (a' := ?_) #[true, true, true, true, true, true, true, true, true, true, true, true, true, true, true, false, false, true, false, false, false, false] rfl rfl (any_of HT_.out (by kernel_rfl)) (fun _ _ _ h => h) (Or.inl ⟨by rfl, ?_⟩) ?_ ?_
  rotate_left
  · intro w'
    go_simp
    with_reducible rfl
  rotate_left
  · simp only [Act.put, List.setIfInBounds_toArray, List.set_cons_zero, List.set_cons_succ, i64_w, i32_w]
    rfl
  refine pure_ (i := 15) (N := (some 33)) (v := ?_) (a' := ?_) #[true, true, true, true, true, true, true, true, true, true, true, true, true, true, true, true, false, true, false, false, false, false] rfl rfl (any_of HT_.out (by kernel_rfl)) (fun _ _ _ h => h) (Or.inl ⟨by rfl, ?_⟩) ?_ ?_
  rotate_left
  · intro w'
    go_simp
    with_reducible rfl
  rotate_left
  · simp only [Act.put, List.setIfInBounds_toArray, List.set_cons_zero, List.set_cons_succ, i64_w, i32_w]
    rfl
  refine take_ (i := 16) (N := (some 34)) (v := ?_) (a' := ?_) #[true, true, true, true, true, true, true, true, true, true, true, true, true, true, true, true, true, true, false, false, false, false] rfl rfl (take_ofW HT_.out HW_.out (by kernel_rfl)) (fun _ _ _ h => h) (Or.inl ⟨by rfl, ?_⟩) hHeld ?_ ?_
  rotate_left
  · rintro w' ⟨s0, s1, s2, s3, s4⟩
    go_simp
    with_reducible rfl
  rotate_left
  · simp only [Act.put, List.setIfInBounds_toArray, List.set_cons_zero, List.set_cons_succ, i64_w, i32_w]
    rfl
  refine pure_ (i := 18) (N := (some 36)) (v := ?_) (a' := ?_) #[true, true, true, true, true, true, true, true, true, true, true, true, true, true, true, true, true, true, true, false, false, false] rfl rfl (any_of HT_.out (by kernel_rfl)) (fun _ _ _ h => h) (Or.inl ⟨by rfl, ?_⟩) ?_ ?_
  rotate_left
  · intro w'
    go_simp
    with_reducible rfl
  rotate_left
  · simp only [Act.put, List.setIfInBounds_toArray, List.set_cons_zero, List.set_cons_succ, i64_w, i32_w]
    rfl
  refine take_ (i := 19) (N := (some 37)) (v := ?_) (a' := ?_) #[true, true, true, true, true, true, true, true, true, true, true, true, true, true, true, true, true, true, true, true, false, false] rfl rfl (take_ofW HT_.out HW_.out (by kernel_rfl)) (fun _ _ _ h => h) (Or.inl ⟨by rfl, ?_⟩) hHeld ?_ ?_
  rotate_left
  · rintro w' ⟨s0, s1, s2, s3, s4⟩
    go_simp
    with_reducible rfl
  rotate_left
  · simp only [Act.put, List.setIfInBounds_toArray, List.set_cons_zero, List.set_cons_succ, i64_w, i32_w]
    rfl
  refine last_ (i := 20) (N := (some 38)) #[true, true, true, true, true, true, true, true, true, true, true, true, true, true, true, true, true, true, true, true, true, false] rfl rfl (one_of HT_.out (by kernel_rfl)) (by decide) (fun K hK => ?_)
  refine goes_ Try.func29 (by kernel_rfl) rfl #[.pointer (some ⟨g, 0, none⟩), .int .i64 (i : Int), .int .i64 (j : Int), .agg #[.slice Af l.length cf, .bool sp]] (by rfl) rfl rfl (by (try simp only [List.map_toArray, List.map_cons, List.map_nil]); first | done | rfl) ?_
  refine (HHW.out.put (i : Int) (j : Int) Af cf l sp HCW.out HLF.out).mono ?_
  rintro e w5 ⟨P5, rfl, h5, hw5⟩
  refine ⟨_, rfl, ?_⟩
  have H5 := Aside0.mk h5
  have HW5 := Aside0.mk hw5
  clear h5 hw5
  refine hK.out _ _ ?_
  clear hK K
  refine norm_ (a' := ?_) ?_ ?_
  rotate_left
  · show Act.put _ (some 38) _ = _
    simp only [Act.put, List.setIfInBounds_toArray, List.set_cons_zero, List.set_cons_succ, i64_w, i32_w]
    rfl
  refine pure_ (i := 21) (N := (some 8)) (v := ?_) (a' := ?_) #[true, true, true, true, true, true, true, true, true, true, true, true, true, true, true, true, true, true, true, true, true, true] rfl rfl (any_of HT_.out (by kernel_rfl)) (fun _ _ _ h => h) (Or.inl ⟨by rfl, ?_⟩) ?_ ?_
  rotate_left
  · intro w'
    go_simp
    with_reducible rfl
  rotate_left
  · simp only [Act.put, List.setIfInBounds_toArray, List.set_cons_zero, List.set_cons_succ, i64_w, i32_w]
    rfl
  refine done_ (done_of HT_.out (by kernel_rfl)) ?_
  go_wp2
  go_ret
  exact ⟨P5, rfl, H5.out, (Went.below HB.out P).trans HW5.out⟩
end Go.Proofs.Ytchepjbdaojidaa.PBags
namespace Go.Proofs.Ytchepjbdaojidaa.PBags
open Go.RowKit Go.Proofs.YtchepjbdaojidaaW.PrintWords Go.Proofs.YtchepjbdaojidaaW.PrintLast Go.Proofs.YtchepjbdaojidaaW.PrintMore
attribute [local go_sem] max2_int min2_int max_two min_two max_three min_three max_four min_four
set_option linter.unusedVariables false
set_option linter.unusedSimpArgs false
def spl.T4 : Bool × List (List Nat × List Nat) := (true, [([], []), ([0], [0]), ([1], [1]), ([2], [2]), ([], []), ([], []), ([5], [5]), ([6], [6]), ([7], [7]), ([4, 8], [4, 8]), ([], []), ([9, 10], [9, 10]), ([3, 11], [3, 11]), ([12], [12]), ([], []), ([13, 14], [13, 14]), ([15, 0, 1, 2, 3, 4, 5, 6, 7, 8, 9, 10, 11, 12, 13, 14, 15], [15])])
def spl.B4 : List Nat := [0, 1, 3, 7, 0, 0, 32, 96, 224, 496, 0, 2032, 4095, 8191, 0, 32767, 65535]
theorem spl.tab4 : rtab .any (opsOf Try.f25 4) = spl.T4 := by kernel_rfl
theorem spl.bits4 : waitsOk spl.T4.2 spl.B4 = true := by kernel_rfl
theorem and255 (n : Int) : Go.bits .and .i64 n 255 = n % 256 := by
  have h255 : (BitVec.ofInt 64 255).toNat = 2 ^ 8 - 1 := by decide
  have key : (BitVec.ofInt 64 n &&& BitVec.ofInt 64 255).toNat = (n % ((2 ^ 64 : Nat) : Int)).toNat % 2 ^ 8 := by
    rw [BitVec.toNat_and, BitVec.toNat_ofInt, h255, Nat.and_two_pow_sub_one_eq_mod]
  show IntKind.i64.wrap ((BitVec.ofInt 64 n &&& BitVec.ofInt 64 255).toNat : Nat) = n % 256
  rw [key, IntKind.wrap_i64]
  omega
theorem low_eq (m : Int) : Int.tmod (wrap64 (Int.tmod m 256 + 256)) 256 = m % 256 := by
  have h1 : -256 < Int.tmod m 256 ∧ Int.tmod m 256 < 256 := ⟨Int.lt_tmod_of_pos m (by decide), Int.tmod_lt_of_pos m (by decide)⟩
  rw [show wrap64 (Int.tmod m 256 + 256) = Int.tmod m 256 + 256 from by unfold wrap64; omega, Int.tmod_eq_emod_of_nonneg (by omega)]
  have h2 : Int.tmod m 256 % 256 = m % 256 := by
    have := Int.tmod_add_mul_tdiv m 256
    omega
  omega
/-- Bytes of which one is turned. -/
def turnF (l : List Int) (p m : Int) : List Int × Int := if p < 0 ∨ (l.length : Int) ≤ p then ([], 1) else if m % 256 = 0 then ([], 7) else (l.set p.toNat (Go.bits .xor .u8 (rd l p) (m % 256 % 256)), 0)
theorem turn_seal {l : List Int} (hl : l.length < 140737488355328) (p m : Int) (k : Nat) : seal_Spoil.f (k + 1) l p m = some (turnF l p m) := by
  unfold turnF seal_Spoil.f
  by_cases h1 : p < 0
  · rw [if_pos h1, if_pos (.inl h1)]; simp only [seal_Spoil.j0]; rw [if_pos trivial]
  rw [if_neg h1]
  by_cases h2 : (l.length : Int) ≤ p
  · rw [decide_eq_true (show p ≥ (l.length : Int) from h2), if_pos (.inr h2)]; simp only [seal_Spoil.j0]; rw [if_pos trivial]
  rw [decide_eq_false (show ¬ p ≥ (l.length : Int) from h2), if_neg (fun h => h.elim h1 h2)]
  simp only [seal_Spoil.j0]
  rw [if_neg (by simp), and255]
  split
  · rfl
  · rw [Option.bind_some, if_pos (by simp; omega), Option.bind_some, List.nil_append, if_pos (by omega), if_pos (by omega)]
theorem turn_ref {l : List Int} (hl : l.length < 140737488355328) (p m : Int) (k : Nat) : topiaryref04_Spoil.f (k + 1) l p m = some (turnF l p m) := by
  unfold turnF topiaryref04_Spoil.f
  by_cases h1 : p < 0
  · rw [if_pos h1, if_pos (.inl h1)]; simp only [topiaryref04_Spoil.j0]; rw [if_pos trivial]
  rw [if_neg h1]
  by_cases h2 : (l.length : Int) ≤ p
  · rw [decide_eq_true (show p ≥ (l.length : Int) from h2), if_pos (.inr h2)]; simp only [topiaryref04_Spoil.j0]; rw [if_pos trivial]
  rw [decide_eq_false (show ¬ p ≥ (l.length : Int) from h2), if_neg (fun h => h.elim h1 h2)]
  simp only [topiaryref04_Spoil.j0]
  rw [if_neg (by simp), low_eq]
  split
  · rfl
  · rw [Option.bind_some, if_pos (by simp; omega), Option.bind_some, List.nil_append, if_pos (by omega), if_pos (by omega)]
theorem turn_length (l : List Int) (p m : Int) : (turnF l p m).1.length ≤ l.length := by
  unfold turnF
  split
  · exact Nat.zero_le _
  · split
    · exact Nat.zero_le _
    · rw [List.length_set]; exact Nat.le_refl _
def frameAt (n : Nat) (bs : List (List Frame)) (a b x : Int) : Frame := (bs.getD (key n a b) []).getD x.toNat ([], false)
def spoilF (n : Nat) (bs : List (List Frame)) (a b x p m : Int) : Int × List (List Frame) :=
  if frameF n bs a b x = 0 then (if (frameAt n bs a b x).2 = true then (5, bs) else if (turnF (frameAt n bs a b x).1 p m).2 = 0 then (0, bs.set (key n a b) ((bs.getD (key n a b) []).set x.toNat ((turnF (frameAt n bs a b x).1 p m).1, true))) else ((turnF (frameAt n bs a b x).1 p m).2, bs)) else (frameF n bs a b x, bs)
theorem Small.spoil {n : Nat} {bs : List (List Frame)} (h : Small bs) (a b x p m : Int) : Small (spoilF n bs a b x p m).2 := by
  unfold spoilF
  split
  · rename_i h0
    split
    · exact h
    · split
      · obtain ⟨_, q, rfl, hq⟩ := frameF_ok h0
        refine h.set _ (by rw [List.length_set]; exact (h _).1) (fun f hf => ?_)
        rcases List.mem_or_eq_of_mem_set hf with hf | hf
        · exact (h _).2 f hf
        · rw [hf]
          refine Nat.le_trans (turn_length _ _ _) ?_
          refine (h (key n a b)).2 _ ?_
          unfold frameAt
          rw [Int.toNat_natCast]
          exact mem_getD hq
      · exact h
  · exact h
/-- A lent bag is put back as it lies. -/
theorem Lent.shut {w : World} {base : Nat} {P : Nat → Prop} {g n : Nat} {bs : List (List Frame)} {k B cc : Nat} {v : Value} {oki : Nat → Prop} (h : Lent w base P g n bs k B cc v oki) {xs : List Frame} (hR : frameK.R 68 w base oki v xs) :
    NetI w base P g n (bs.set k xs) := by
  have hM : bagK.M w base oki xs [v] := ⟨_, rfl, hR⟩
  have h3 := Kd.H_back h.hole (x' := xs) hM (fun _ hb => hb)
  rw [Int.toNat_natCast] at h3
  exact ⟨some ⟨B, 0, none⟩, cc, h.net, h.base_le, h.Pg, h.one, h.max, by rw [List.length_set, h.len], h3⟩
/-- A frame of a lent bag is written. -/
theorem Lent.frame {w : World} {P : Nat → Prop} {g n : Nat} {bs : List (List Frame)} {k B cc gk len ck : Nat} {oki : Nat → Prop} {xs : List Frame} (h : Lent w 0 P g n bs k B cc (.slice (some ⟨gk, 0, none⟩) len ck) oki) (hR : frameK.R 68 w 0 oki (.slice (some ⟨gk, 0, none⟩) len ck) xs) (q : Nat) (hq : q < xs.length) {v : Value} {f : Frame} {okv : Nat → Prop} (hv : (Kd.int .u8).R 5 w 0 okv v f.1) (hov : ∀ k, okv k → oki k ∧ k ≠ gk) :
    NetI ((w.setCell ⟨gk, q * 2, none⟩ v).setCell ⟨gk, q * 2 + 1, none⟩ (.bool f.2)) 0 P g n (bs.set k (xs.set q f)) := by
  obtain ⟨hl, hle, _⟩ := Kd.R_reads' hR
  obtain ⟨c, hcl, _, hcc, _⟩ := Kd.R_elem hR ([], false) (q : Int) (Int.natCast_nonneg _) (by omega)
  have hcl2 : c.length = 2 := hcl
  obtain ⟨h1, h2⟩ := Kd.R_seg hR (q : Int) (Int.natCast_nonneg _) (by omega) (seg := [v, .bool f.2]) (j := 0) hcl hcc (by show 0 + 2 ≤ 2; omega) (x' := f) (okp := okv)
    (by rw [List.take_zero, List.nil_append, List.drop_of_length_le (by rw [hcl2]; exact Nat.le_refl _), List.append_nil]; exact ⟨[v], [.bool f.2], rfl, ⟨v, rfl, hv⟩, rfl⟩) hov
  rw [Int.toNat_natCast] at h1 h2
  have e : w.setCells gk (q * frameK.sz + 0) [v, .bool f.2] = (w.setCell ⟨gk, q * 2, none⟩ v).setCell ⟨gk, q * 2 + 1, none⟩ (.bool f.2) := rfl
  rw [e] at h1 h2
  have hrow : ∀ b, some gk = some b → oki b := fun b hb => hR.1 b hb
  have hL := h.grown h2 hrow
  exact hL.shut h1
set_option maxHeartbeats 8000000 in
set_option maxRecDepth 100000 in
theorem Net.spoil {w : World} {P : Nat → Prop} {g n : Nat} {bs : List (List Frame)} (h : Net w P g n bs) (a b x p m : Int) :
    Calls Try.prog 25 #[.pointer (some ⟨g, 0, none⟩), .int .i64 a, .int .i64 b, .int .i64 x, .int .i64 p, .int .i64 m] w fun e w' => ∃ P', e = .returned (.int .i64 (spoilF n bs a b x p m).1) ∧ Net w' P' g n (spoilF n bs a b x p m).2 ∧ Went w P w' P' := by
  have HFR := Aside0.mk (frame_calls h.i a b x)
  have HH := Aside0.mk h
  have HSM := Aside0.mk (h.small.spoil (n := n) a b x p m)
  unfold spoilF at HSM ⊢
  by_cases c0 : frameF n bs a b x = 0
  case neg =>
    rw [if_neg c0]
    have e1 : (frameF n bs a b x != 0) = true := by rw [bne_iff_ne]; exact c0
    have C := Aside0.mk c0
    clear c0 h HSM
    go_enter Try.func25, Try.ntmps25
    go_wp2_with (fail)
    refine HFR.out.mono ?_
    rintro e w' ⟨rfl, ⟨nd, rfl⟩⟩
    go_wp2
    go_ret
    have hb := pw_below_drewN (Below.refl w.heap.size w) nd
    exact ⟨P, rfl, HH.out.below hb, Went.below hb P⟩
  rw [if_pos c0] at HSM ⊢
  rw [c0] at HFR
  obtain ⟨cl, q, rfl, hq⟩ := frameF_ok c0
  clear c0
  obtain ⟨i, j, rfl, rfl, hi, hj, hij⟩ := linkF_ok cl
  clear cl
  have hn := h.i.size.2.2
  have hk : key n (i : Int) (j : Int) = i * n + j := by unfold key; rw [Int.toNat_natCast, Int.toNat_natCast]
  have hfa : frameAt n bs (i : Int) (j : Int) (q : Int) = (bs.getD (i * n + j) []).getD q ([], false) := by unfold frameAt; rw [hk, Int.toNat_natCast]
  rw [hk] at hq
  rw [hk, hfa, Int.toNat_natCast] at HSM ⊢
  obtain ⟨B, cc, Ak, ck, oki, HL, hle, hR⟩ := h.i.lend (i * n + j) (key_lt hi hj)
  have hm := keep_le hi hn
  have hkl := key_lt hi hj
  have hw1 : wrap64 ((i : Int) * (n : Int)) = ((i * n : Nat) : Int) := by rw [← Int.natCast_mul]; exact wrap_nat (Nat.le_trans hm (by decide))
  have hw2 : wrap64 (((i * n : Nat) : Int) + (j : Int)) = ((i * n + j : Nat) : Int) := by rw [← Int.natCast_add]; exact wrap_nat (Nat.le_trans (Nat.add_le_add hm (Nat.le_trans (Nat.le_of_lt hj) hn)) (by decide))
  have b1 : (0 ≤ ((i * n + j : Nat) : Int)) = True := eq_true (Int.natCast_nonneg _)
  have b2 : (((i * n + j : Nat) : Int) < ((n * n : Nat) : Int)) = True := eq_true (Int.ofNat_lt.2 hkl)
  have b3 : (i * n + j < n * n) = True := eq_true hkl
  have q1 := Mem.cell_of HL.net 1
  have q0 := Mem.cell_of HL.net 0
  have qB := HL.cell
  rw [show (#[Value.int .i64 (n : Int), .slice (some ⟨B, 0, none⟩) (n * n) cc] : Array Value)[1]? = some (.slice (some ⟨B, 0, none⟩) (n * n) cc) from rfl] at q1
  rw [show (#[Value.int .i64 (n : Int), .slice (some ⟨B, 0, none⟩) (n * n) cc] : Array Value)[0]? = some (.int .i64 (n : Int)) from rfl] at q0
  obtain ⟨gk, Af, cf, rfl, qf, qs, hlf, hCf⟩ := bag_frame hR q hq
  have b4 : (0 ≤ (q : Int)) = True := eq_true (Int.natCast_nonneg _)
  have b5 : ((q : Int) < ((bs.getD (i * n + j) []).length : Int)) = True := eq_true (Int.ofNat_lt.2 hq)
  have b6 : (q < (bs.getD (i * n + j) []).length) = True := eq_true hq
  have hmem := mem_getD (d := (([], false) : Frame)) hq
  have hfl := (h.small (i * n + j)).2 _ hmem
  have HLN := Aside0.mk HL
  have HRR := Aside0.mk hR
  have HQ := Aside0.mk hq
  have HFF := Aside0.mk hfa
  have HBA := Aside0.mk h.i.le
  have HPL := Aside0.mk h.lt
  clear HL hR hk hm hij h hmem hfa hle hq
  obtain ⟨f, hf⟩ : ∃ f, (bs.getD (i * n + j) []).getD q ([], false) = f := ⟨_, rfl⟩
  rw [hf] at qf qs hlf hCf hfl HSM ⊢
  have HCF := Aside0.mk hCf
  have HLF := Aside0.mk hlf
  have HFL := Aside0.mk hfl
  clear hCf hlf hfl hf HFF
  have QXX := Aside0.mk (And.intro qB (And.intro b5 b6))
  clear qB b5 b6
  generalize bs.getD (i * n + j) [] = xs at *
  have qB := QXX.out.1
  have b5 := QXX.out.2.1
  have b6 := QXX.out.2.2
  clear QXX
  obtain ⟨nn, hnn⟩ : ∃ nn, n * n = nn := ⟨_, rfl⟩
  rw [hnn] at q1 b2 b3
  clear hnn hkl
  generalize i * n = mm at *
  generalize mm + j = kk at *
  obtain ⟨l, sp⟩ := f
  dsimp only at qf qs HSM HCF HLF HFL ⊢
  have SH : ∀ nd, Aside0 ((w.drewN nd).drew.cell? ⟨g, 1, none⟩ = some (.slice (some ⟨B, 0, none⟩) nn cc) ∧ (w.drewN nd).drew.cell? ⟨g, 0, none⟩ = some (.int .i64 (n : Int)) ∧ (w.drewN nd).drew.cell? ⟨B, kk, none⟩ = some (.slice (some ⟨gk, 0, none⟩) xs.length ck)) := fun nd => ⟨q1, q0, qB⟩
  have SHA := Aside0.mk SH
  clear SH
  by_cases c1 : sp = true
  · subst c1
    rw [if_pos rfl]
    clear HSM
    go_enter Try.func25, Try.ntmps25
    go_wp2_with (fail)
    refine HFR.out.mono ?_
    rintro e w' ⟨rfl, ⟨nd, rfl⟩⟩
    go_wp2_with (fail)
    have HS := SHA.out nd
    refine start_ (n := 17) (S := (fun w' => w'.cell? ⟨g, 1, none⟩ = some (.slice (some ⟨B, 0, none⟩) nn cc) ∧ w'.cell? ⟨g, 0, none⟩ = some (.int .i64 (n : Int)) ∧ w'.cell? ⟨B, kk, none⟩ = some (.slice (some ⟨gk, 0, none⟩) xs.length ck))) (ds := []) #[false, false, false, false, false, false, false, false, false, false, false, false, false, false, false, false, false] (by kernel_rfl) rfl rfl (HS.out) (fun hHeld => ?_)
    refine with_tabW spl.tab4 spl.bits4 (fun HT_ HW_ => ?_)
    refine pure_ (i := 0) (N := (some 25)) (v := ?_) (a' := ?_) #[true, false, false, false, false, false, false, false, false, false, false, false, false, false, false, false, false] rfl rfl (any_of HT_.out (by kernel_rfl)) (fun _ _ _ h => h) (Or.inl ⟨by rfl, ?_⟩) ?_ ?_
    rotate_left
    · intro w'
      go_simp
      with_reducible rfl
    rotate_left
    · simp only [Act.put, List.setIfInBounds_toArray, List.set_cons_zero, List.set_cons_succ, i64_w, i32_w]
      rfl
    refine pure_ (i := 1) (N := (some 26)) (v := ?_) (a' := ?_) #[true, true, false, false, false, false, false, false, false, false, false, false, false, false, false, false, false] rfl rfl (any_of HT_.out (by kernel_rfl)) (fun _ _ _ h => h) (Or.inl ⟨by rfl, ?_⟩) ?_ ?_
    rotate_left
    · intro w'
      go_simp
      with_reducible rfl
    rotate_left
    · simp only [Act.put, List.setIfInBounds_toArray, List.set_cons_zero, List.set_cons_succ, i64_w, i32_w]
      rfl
    refine pure_ (i := 2) (N := (some 27)) (v := ?_) (a' := ?_) #[true, true, true, false, false, false, false, false, false, false, false, false, false, false, false, false, false] rfl rfl (any_of HT_.out (by kernel_rfl)) (fun _ _ _ h => h) (Or.inl ⟨by rfl, ?_⟩) ?_ ?_
    rotate_left
    · intro w'
      go_simp
      with_reducible rfl
    rotate_left
    · simp only [Act.put, List.setIfInBounds_toArray, List.set_cons_zero, List.set_cons_succ, i64_w, i32_w]
      rfl
    refine pure_ (i := 4) (N := (some 29)) (v := ?_) (a' := ?_) #[true, true, true, false, true, false, false, false, false, false, false, false, false, false, false, false, false] rfl rfl (any_of HT_.out (by kernel_rfl)) (fun _ _ _ h => h) (Or.inl ⟨by rfl, ?_⟩) ?_ ?_
    rotate_left
    · intro w'
      go_simp
      with_reducible rfl
    rotate_left
    · simp only [Act.put, List.setIfInBounds_toArray, List.set_cons_zero, List.set_cons_succ, i64_w, i32_w]
      rfl
    refine pure_ (i := 5) (N := (some 30)) (v := ?_) (a' := ?_) #[true, true, true, false, true, true, false, false, false, false, false, false, false, false, false, false, false] rfl rfl (any_of HT_.out (by kernel_rfl)) (fun _ _ _ h => h) (Or.inl ⟨by rfl, ?_⟩) ?_ ?_
    rotate_left
    · intro w'
      go_simp
      with_reducible rfl
    rotate_left
    · simp only [Act.put, List.setIfInBounds_toArray, List.set_cons_zero, List.set_cons_succ, i64_w, i32_w]
      rfl
    refine pure_ (i := 6) (N := (some 31)) (v := ?_) (a' := ?_) #[true, true, true, false, true, true, true, false, false, false, false, false, false, false, false, false, false] rfl rfl (any_of HT_.out (by kernel_rfl)) (fun _ _ _ h => h) (Or.inl ⟨by rfl, ?_⟩) ?_ ?_
    rotate_left
    · intro w'
      go_simp
      with_reducible rfl
    rotate_left
    · simp only [Act.put, List.setIfInBounds_toArray, List.set_cons_zero, List.set_cons_succ, i64_w, i32_w]
      rfl
    refine pure_ (i := 7) (N := (some 32)) (v := ?_) (a' := ?_) #[true, true, true, false, true, true, true, true, false, false, false, false, false, false, false, false, false] rfl rfl (any_of HT_.out (by kernel_rfl)) (fun _ _ _ h => h) (Or.inl ⟨by rfl, ?_⟩) ?_ ?_
    rotate_left
    · intro w'
      go_simp
      with_reducible rfl
    rotate_left
    · simp only [Act.put, List.setIfInBounds_toArray, List.set_cons_zero, List.set_cons_succ, i64_w, i32_w]
      rfl
    refine pure_ (i := 10) (N := (some 35)) (v := ?_) (a' := ?_) #[true, true, true, false, true, true, true, true, false, false, true, false, false, false, false, false, false] rfl rfl (any_of HT_.out (by kernel_rfl)) (fun _ _ _ h => h) (Or.inl ⟨by rfl, ?_⟩) ?_ ?_
    rotate_left
    · intro w'
      go_simp
      with_reducible rfl
    rotate_left
    · simp only [Act.put, List.setIfInBounds_toArray, List.set_cons_zero, List.set_cons_succ, i64_w, i32_w]
      rfl
    refine pure_ (i := 14) (N := (some 39)) (v := ?_) (a' := ?_) #[true, true, true, false, true, true, true, true, false, false, true, false, false, false, true, false, false] rfl rfl (any_of HT_.out (by kernel_rfl)) (fun _ _ _ h => h) (Or.inl ⟨by rfl, ?_⟩) ?_ ?_
    rotate_left
    · intro w'
      go_simp
      with_reducible rfl
    rotate_left
    · simp only [Act.put, List.setIfInBounds_toArray, List.set_cons_zero, List.set_cons_succ, i64_w, i32_w]
      rfl
    refine take_ (i := 3) (N := (some 28)) (v := ?_) (a' := ?_) #[true, true, true, true, true, true, true, true, false, false, true, false, false, false, true, false, false] rfl rfl (take_ofW HT_.out HW_.out (by kernel_rfl)) (fun _ _ _ h => h) (Or.inl ⟨by rfl, ?_⟩) hHeld ?_ ?_
    rotate_left
    · rintro w' ⟨s0, s1, s2⟩
      go_simp
      with_reducible rfl
    rotate_left
    · simp only [Act.put, List.setIfInBounds_toArray, List.set_cons_zero, List.set_cons_succ, i64_w, i32_w]
      rfl
    refine take_ (i := 8) (N := (some 33)) (v := ?_) (a' := ?_) #[true, true, true, true, true, true, true, true, true, false, true, false, false, false, true, false, false] rfl rfl (take_ofW HT_.out HW_.out (by kernel_rfl)) (fun _ _ _ h => h) (Or.inl ⟨by rfl, ?_⟩) hHeld ?_ ?_
    rotate_left
    · rintro w' ⟨s0, s1, s2⟩
      go_simp
      with_reducible rfl
    rotate_left
    · simp only [Act.put, List.setIfInBounds_toArray, List.set_cons_zero, List.set_cons_succ, i64_w, i32_w]
      rfl
    refine pure_ (i := 9) (N := (some 34)) (v := ?_) (a' := ?_) #[true, true, true, true, true, true, true, true, true, true, true, false, false, false, true, false, false] rfl rfl (any_of HT_.out (by kernel_rfl)) (fun _ _ _ h => h) (Or.inl ⟨by rfl, ?_⟩) ?_ ?_
    rotate_left
    · intro w'
      go_simp
      with_reducible rfl
    rotate_left
    · simp only [Act.put, List.setIfInBounds_toArray, List.set_cons_zero, List.set_cons_succ, i64_w, i32_w]
      rfl
    refine pure_ (i := 11) (N := (some 36)) (v := ?_) (a' := ?_) #[true, true, true, true, true, true, true, true, true, true, true, true, false, false, true, false, false] rfl rfl (any_of HT_.out (by kernel_rfl)) (fun _ _ _ h => h) (Or.inl ⟨by rfl, ?_⟩) ?_ ?_
    rotate_left
    · intro w'
      go_simp
      with_reducible rfl
    rotate_left
    · simp only [Act.put, List.setIfInBounds_toArray, List.set_cons_zero, List.set_cons_succ, i64_w, i32_w]
      rfl
    refine pure_ (i := 12) (N := (some 37)) (v := ?_) (a' := ?_) #[true, true, true, true, true, true, true, true, true, true, true, true, true, false, true, false, false] rfl rfl (any_of HT_.out (by kernel_rfl)) (fun _ _ _ h => h) (Or.inl ⟨by rfl, ?_⟩) ?_ ?_
    rotate_left
    · intro w'
      go_simp
      with_reducible rfl
    rotate_left
    · simp only [Act.put, List.setIfInBounds_toArray, List.set_cons_zero, List.set_cons_succ, i64_w, i32_w]
      rfl
    refine take_ (i := 13) (N := (some 38)) (v := ?_) (a' := ?_) #[true, true, true, true, true, true, true, true, true, true, true, true, true, true, true, false, false] rfl rfl (take_ofW HT_.out HW_.out (by kernel_rfl)) (fun _ _ _ h => h) (Or.inl ⟨by rfl, ?_⟩) hHeld ?_ ?_
    rotate_left
    · rintro w' ⟨s0, s1, s2⟩
      go_simp
      with_reducible rfl
    rotate_left
    · simp only [Act.put, List.setIfInBounds_toArray, List.set_cons_zero, List.set_cons_succ, i64_w, i32_w]
      rfl
    refine pure_ (i := 15) (N := (some 40)) (v := ?_) (a' := ?_) #[true, true, true, true, true, true, true, true, true, true, true, true, true, true, true, true, false] rfl rfl (any_of HT_.out (by kernel_rfl)) (fun _ _ _ h => h) (Or.inl ⟨by rfl, ?_⟩) ?_ ?_
    rotate_left
    · intro w'
      go_simp
      with_reducible rfl
    rotate_left
    · simp only [Act.put, List.setIfInBounds_toArray, List.set_cons_zero, List.set_cons_succ, i64_w, i32_w]
      rfl
    refine pure_ (i := 16) (N := (some 14)) (v := ?_) (a' := ?_) #[true, true, true, true, true, true, true, true, true, true, true, true, true, true, true, true, true] rfl rfl (any_of HT_.out (by kernel_rfl)) (fun _ _ _ h => h) (Or.inl ⟨by rfl, ?_⟩) ?_ ?_
    rotate_left
    · intro w'
      go_simp
      with_reducible rfl
    rotate_left
    · simp only [Act.put, List.setIfInBounds_toArray, List.set_cons_zero, List.set_cons_succ, i64_w, i32_w]
      rfl
    refine done_ (done_of HT_.out (by kernel_rfl)) ?_
    go_wp2
    go_ret
    have hb := below_drew1 (pw_below_drewN (Below.refl w.heap.size w) nd)
    exact ⟨P, rfl, HH.out.below hb, Went.below hb P⟩
  have c1' : sp = false := by simpa using c1
  subst c1'
  rw [if_neg c1] at HSM ⊢
  have HT := Aside0.mk (turn_seal (l := l) (by have := HFL.out; omega) p m 0)
  obtain ⟨⟨l2, ec⟩, ht⟩ : ∃ t, turnF l p m = t := ⟨_, rfl⟩
  rw [ht] at HT HSM ⊢
  clear ht c1
  dsimp only at HSM ⊢
  by_cases c2 : ec = 0
  · subst c2
    rw [if_pos rfl] at HSM ⊢
    go_enter Try.func25, Try.ntmps25
    go_wp2_with (fail)
    refine HFR.out.mono ?_
    rintro e w' ⟨rfl, ⟨nd, rfl⟩⟩
    go_wp2_with (fail)
    have HS := SHA.out nd
    have HCW := Aside0.mk (Kd.C_below HCF.out (below_drew1 (pw_below_drewN (Below.refl w.heap.size w) nd)))
    refine start_ (n := 17) (S := (fun w' => w'.cell? ⟨g, 1, none⟩ = some (.slice (some ⟨B, 0, none⟩) nn cc) ∧ w'.cell? ⟨g, 0, none⟩ = some (.int .i64 (n : Int)) ∧ w'.cell? ⟨B, kk, none⟩ = some (.slice (some ⟨gk, 0, none⟩) xs.length ck))) (ds := []) #[false, false, false, false, false, false, false, false, false, false, false, false, false, false, false, false, false] (by kernel_rfl) rfl rfl (HS.out) (fun hHeld => ?_)
    refine with_tabW spl.tab4 spl.bits4 (fun HT_ HW_ => ?_)
    refine pure_ (i := 0) (N := (some 25)) (v := ?_) (a' := ?_) #[true, false, false, false, false, false, false, false, false, false, false, false, false, false, false, false, false] rfl rfl (any_of HT_.out (by kernel_rfl)) (fun _ _ _ h => h) (Or.inl ⟨by rfl, ?_⟩) ?_ ?_
    rotate_left
    · intro w'
      go_simp
      with_reducible rfl
    rotate_left
    · simp only [Act.put, List.setIfInBounds_toArray, List.set_cons_zero, List.set_cons_succ, i64_w, i32_w]
      rfl
    refine pure_ (i := 1) (N := (some 26)) (v := ?_) (a' := ?_) #[true, true, false, false, false, false, false, false, false, false, false, false, false, false, false, false, false] rfl rfl (any_of HT_.out (by kernel_rfl)) (fun _ _ _ h => h) (Or.inl ⟨by rfl, ?_⟩) ?_ ?_
    rotate_left
    · intro w'
      go_simp
      with_reducible rfl
    rotate_left
    · simp only [Act.put, List.setIfInBounds_toArray, List.set_cons_zero, List.set_cons_succ, i64_w, i32_w]
      rfl
    refine pure_ (i := 2) (N := (some 27)) (v := ?_) (a' := ?_) #[true, true, true, false, false, false, false, false, false, false, false, false, false, false, false, false, false] rfl rfl (any_of HT_.out (by kernel_rfl)) (fun _ _ _ h => h) (Or.inl ⟨by rfl, ?_⟩) ?_ ?_
    rotate_left
    · intro w'
      go_simp
      with_reducible rfl
    rotate_left
    · simp only [Act.put, List.setIfInBounds_toArray, List.set_cons_zero, List.set_cons_succ, i64_w, i32_w]
      rfl
    refine pure_ (i := 4) (N := (some 29)) (v := ?_) (a' := ?_) #[true, true, true, false, true, false, false, false, false, false, false, false, false, false, false, false, false] rfl rfl (any_of HT_.out (by kernel_rfl)) (fun _ _ _ h => h) (Or.inl ⟨by rfl, ?_⟩) ?_ ?_
    rotate_left
    · intro w'
      go_simp
      with_reducible rfl
    rotate_left
    · simp only [Act.put, List.setIfInBounds_toArray, List.set_cons_zero, List.set_cons_succ, i64_w, i32_w]
      rfl
    refine pure_ (i := 5) (N := (some 30)) (v := ?_) (a' := ?_) #[true, true, true, false, true, true, false, false, false, false, false, false, false, false, false, false, false] rfl rfl (any_of HT_.out (by kernel_rfl)) (fun _ _ _ h => h) (Or.inl ⟨by rfl, ?_⟩) ?_ ?_
    rotate_left
    · intro w'
      go_simp
      with_reducible rfl
    rotate_left
    · simp only [Act.put, List.setIfInBounds_toArray, List.set_cons_zero, List.set_cons_succ, i64_w, i32_w]
      rfl
    refine pure_ (i := 6) (N := (some 31)) (v := ?_) (a' := ?_) #[true, true, true, false, true, true, true, false, false, false, false, false, false, false, false, false, false] rfl rfl (any_of HT_.out (by kernel_rfl)) (fun _ _ _ h => h) (Or.inl ⟨by rfl, ?_⟩) ?_ ?_
    rotate_left
    · intro w'
      go_simp
      with_reducible rfl
    rotate_left
    · simp only [Act.put, List.setIfInBounds_toArray, List.set_cons_zero, List.set_cons_succ, i64_w, i32_w]
      rfl
    refine pure_ (i := 7) (N := (some 32)) (v := ?_) (a' := ?_) #[true, true, true, false, true, true, true, true, false, false, false, false, false, false, false, false, false] rfl rfl (any_of HT_.out (by kernel_rfl)) (fun _ _ _ h => h) (Or.inl ⟨by rfl, ?_⟩) ?_ ?_
    rotate_left
    · intro w'
      go_simp
      with_reducible rfl
    rotate_left
    · simp only [Act.put, List.setIfInBounds_toArray, List.set_cons_zero, List.set_cons_succ, i64_w, i32_w]
      rfl
    refine pure_ (i := 10) (N := (some 35)) (v := ?_) (a' := ?_) #[true, true, true, false, true, true, true, true, false, false, true, false, false, false, false, false, false] rfl rfl (any_of HT_.out (by kernel_rfl)) (fun _ _ _ h => h) (Or.inl ⟨by rfl, ?_⟩) ?_ ?_
    rotate_left
    · intro w'
      go_simp
      with_reducible rfl
    rotate_left
    · simp only [Act.put, List.setIfInBounds_toArray, List.set_cons_zero, List.set_cons_succ, i64_w, i32_w]
      rfl
    refine pure_ (i := 14) (N := (some 39)) (v := ?_) (a' := ?_) #[true, true, true, false, true, true, true, true, false, false, true, false, false, false, true, false, false] rfl rfl (any_of HT_.out (by kernel_rfl)) (fun _ _ _ h => h) (Or.inl ⟨by rfl, ?_⟩) ?_ ?_
    rotate_left
    · intro w'
      go_simp
      with_reducible rfl
    rotate_left
    · simp only [Act.put, List.setIfInBounds_toArray, List.set_cons_zero, List.set_cons_succ, i64_w, i32_w]
      rfl
    refine take_ (i := 3) (N := (some 28)) (v := ?_) (a' := ?_) #[true, true, true, true, true, true, true, true, false, false, true, false, false, false, true, false, false] rfl rfl (take_ofW HT_.out HW_.out (by kernel_rfl)) (fun _ _ _ h => h) (Or.inl ⟨by rfl, ?_⟩) hHeld ?_ ?_
    rotate_left
    · rintro w' ⟨s0, s1, s2⟩
      go_simp
      with_reducible rfl
    rotate_left
    · simp only [Act.put, List.setIfInBounds_toArray, List.set_cons_zero, List.set_cons_succ, i64_w, i32_w]
      rfl
    refine take_ (i := 8) (N := (some 33)) (v := ?_) (a' := ?_) #[true, true, true, true, true, true, true, true, true, false, true, false, false, false, true, false, false] rfl rfl (take_ofW HT_.out HW_.out (by kernel_rfl)) (fun _ _ _ h => h) (Or.inl ⟨by rfl, ?_⟩) hHeld ?_ ?_
    rotate_left
    · rintro w' ⟨s0, s1, s2⟩
      go_simp
      with_reducible rfl
    rotate_left
    · simp only [Act.put, List.setIfInBounds_toArray, List.set_cons_zero, List.set_cons_succ, i64_w, i32_w]
      rfl
    refine pure_ (i := 9) (N := (some 34)) (v := ?_) (a' := ?_) #[true, true, true, true, true, true, true, true, true, true, true, false, false, false, true, false, false] rfl rfl (any_of HT_.out (by kernel_rfl)) (fun _ _ _ h => h) (Or.inl ⟨by rfl, ?_⟩) ?_ ?_
    rotate_left
    · intro w'
      go_simp
      with_reducible rfl
    rotate_left
    · simp only [Act.put, List.setIfInBounds_toArray, List.set_cons_zero, List.set_cons_succ, i64_w, i32_w]
      rfl
    refine pure_ (i := 11) (N := (some 36)) (v := ?_) (a' := ?_) #[true, true, true, true, true, true, true, true, true, true, true, true, false, false, true, false, false] rfl rfl (any_of HT_.out (by kernel_rfl)) (fun _ _ _ h => h) (Or.inl ⟨by rfl, ?_⟩) ?_ ?_
    rotate_left
    · intro w'
      go_simp
      with_reducible rfl
    rotate_left
    · simp only [Act.put, List.setIfInBounds_toArray, List.set_cons_zero, List.set_cons_succ, i64_w, i32_w]
      rfl
    refine pure_ (i := 12) (N := (some 37)) (v := ?_) (a' := ?_) #[true, true, true, true, true, true, true, true, true, true, true, true, true, false, true, false, false] rfl rfl (any_of HT_.out (by kernel_rfl)) (fun _ _ _ h => h) (Or.inl ⟨by rfl, ?_⟩) ?_ ?_
    rotate_left
    · intro w'
      go_simp
      with_reducible rfl
    rotate_left
    · simp only [Act.put, List.setIfInBounds_toArray, List.set_cons_zero, List.set_cons_succ, i64_w, i32_w]
      rfl
    refine take_ (i := 13) (N := (some 38)) (v := ?_) (a' := ?_) #[true, true, true, true, true, true, true, true, true, true, true, true, true, true, true, false, false] rfl rfl (take_ofW HT_.out HW_.out (by kernel_rfl)) (fun _ _ _ h => h) (Or.inl ⟨by rfl, ?_⟩) hHeld ?_ ?_
    rotate_left
    · rintro w' ⟨s0, s1, s2⟩
      go_simp
      with_reducible rfl
    rotate_left
    · simp only [Act.put, List.setIfInBounds_toArray, List.set_cons_zero, List.set_cons_succ, i64_w, i32_w]
      rfl
    refine pure_ (i := 15) (N := (some 40)) (v := ?_) (a' := ?_) #[true, true, true, true, true, true, true, true, true, true, true, true, true, true, true, true, false] rfl rfl (any_of HT_.out (by kernel_rfl)) (fun _ _ _ h => h) (Or.inl ⟨by rfl, ?_⟩) ?_ ?_
    rotate_left
    · intro w'
      go_simp
      with_reducible rfl
    rotate_left
    · simp only [Act.put, List.setIfInBounds_toArray, List.set_cons_zero, List.set_cons_succ, i64_w, i32_w]
      rfl
    refine pure_ (i := 16) (N := (some 14)) (v := ?_) (a' := ?_) #[true, true, true, true, true, true, true, true, true, true, true, true, true, true, true, true, true] rfl rfl (any_of HT_.out (by kernel_rfl)) (fun _ _ _ h => h) (Or.inl ⟨by rfl, ?_⟩) ?_ ?_
    rotate_left
    · intro w'
      go_simp
      with_reducible rfl
    rotate_left
    · simp only [Act.put, List.setIfInBounds_toArray, List.set_cons_zero, List.set_cons_succ, i64_w, i32_w]
      rfl
    refine done_ (done_of HT_.out (by kernel_rfl)) ?_
    go_wp2_with (fail)
    refine (seal_Spoil.calls _ Af cf l p m l2 0 _ HCW.out HLF.out HT.out).mono ?_
    rintro e w5 ⟨v5, rfl, hR5, hb5⟩
    obtain ⟨A5, c5, rfl⟩ := Kd.R_slice hR5
    have HB5 := Aside0.mk ((below_drew1 (pw_below_drewN (Below.refl w.heap.size w) nd)).trans hb5)
    have hgk : gk < w.heap.size := World.block_lt_of_cell? w _ qf
    have hBlt : B < w.heap.size := World.block_lt_of_cell? w _ qB
    have HR5 := Aside0.mk (Kd.R_reok rfl hR5 (ok := fun k => w.heap.size ≤ k) (Kd.R_base hR5))
    have HL5 := Aside0.mk ((HLN.out.widen hBlt).below HB5.out)
    have HRX := Aside0.mk (Kd.R_mono (Kd.R_below HRR.out HB5.out) (ok' := fun k => oki k ∨ w.heap.size ≤ k) (fun _ h => .inl h))
    have hfz : ∀ o, w5.frozen? ⟨gk, o, none⟩ = false := by
      obtain ⟨cells, hc⟩ := Kd.R_typed HRX.out gk (by simp [Value.ownBlock])
      exact fun o => Mem.free_of hc o
    have z0 := hfz (q * 2)
    have z1 := hfz (q * 2 + 1)
    have y0 := (HB5.out.cell (World.block_lt_of_cell? _ _ qf)).trans qf
    have y1 := (HB5.out.cell (World.block_lt_of_cell? _ _ qs)).trans qs
    have HG := Aside0.mk (And.intro hgk (HLN.out.ok gk (HRR.out.1 gk (by simp [Value.ownBlock]))).1.1)
    clear hR5 hb5 hfz HRR HLN HCF HCW HFR HS qf qs HT hgk hBlt
    go_wp2
    go_ret
    have hni := HL5.out.frame HRX.out q HQ.out (f := (l2, true)) (Kd.R_lower HR5.out (Nat.zero_le _)) (fun k hk => ⟨.inr hk, by have := HG.out.1; omega⟩)
    exact ⟨_, rfl, Net.of hni HSM.out, Went.done (Kept.setCell (Kept.setCell ((Kept.refl w P).below HB5.out) (.inl HG.out.2) _) (.inl HG.out.2) _) (fun _ hk => hk)⟩
  · rw [if_neg c2]
    have e1 : (ec == 0) = false := by rw [beq_eq_false_iff_ne]; exact c2
    clear HSM
    have C2 := Aside0.mk c2
    clear c2
    go_enter Try.func25, Try.ntmps25
    go_wp2_with (fail)
    refine HFR.out.mono ?_
    rintro e w' ⟨rfl, ⟨nd, rfl⟩⟩
    go_wp2_with (fail)
    have HS := SHA.out nd
    have HCW := Aside0.mk (Kd.C_below HCF.out (below_drew1 (pw_below_drewN (Below.refl w.heap.size w) nd)))
    refine start_ (n := 17) (S := (fun w' => w'.cell? ⟨g, 1, none⟩ = some (.slice (some ⟨B, 0, none⟩) nn cc) ∧ w'.cell? ⟨g, 0, none⟩ = some (.int .i64 (n : Int)) ∧ w'.cell? ⟨B, kk, none⟩ = some (.slice (some ⟨gk, 0, none⟩) xs.length ck))) (ds := []) #[false, false, false, false, false, false, false, false, false, false, false, false, false, false, false, false, false] (by kernel_rfl) rfl rfl (HS.out) (fun hHeld => ?_)
    refine with_tabW spl.tab4 spl.bits4 (fun HT_ HW_ => ?_)
    refine pure_ (i := 0) (N := (some 25)) (v := ?_) (a' := ?_) #[true, false, false, false, false, false, false, false, false, false, false, false, false, false, false, false, false] rfl rfl (any_of HT_.out (by kernel_rfl)) (fun _ _ _ h => h) (Or.inl ⟨by rfl, ?_⟩) ?_ ?_
    rotate_left
    · intro w'
      go_simp
      with_reducible rfl
    rotate_left
    · simp only [Act.put, List.setIfInBounds_toArray, List.set_cons_zero, List.set_cons_succ, i64_w, i32_w]
      rfl
    refine pure_ (i := 1) (N := (some 26)) (v := ?_) (a' := ?_) #[true, true, false, false, false, false, false, false, false, false, false, false, false, false, false, false, false] rfl rfl (any_of HT_.out (by kernel_rfl)) (fun _ _ _ h => h) (Or.inl ⟨by rfl, ?_⟩) ?_ ?_
    rotate_left
    · intro w'
      go_simp
      with_reducible rfl
    rotate_left
    · simp only [Act.put, List.setIfInBounds_toArray, List.set_cons_zero, List.set_cons_succ, i64_w, i32_w]
      rfl
    refine pure_ (i := 2) (N := (some 27)) (v := ?_) (a' := ?_) #[true, true, true, false, false, false, false, false, false, false, false, false, false, false, false, false, false] rfl rfl (any_of HT_.out (by kernel_rfl)) (fun _ _ _ h => h) (Or.inl ⟨by rfl, ?_⟩) ?_ ?_
    rotate_left
    · intro w'
      go_simp
      with_reducible rfl
    rotate_left
    · simp only [Act.put, List.setIfInBounds_toArray, List.set_cons_zero, List.set_cons_succ, i64_w, i32_w]
      rfl
    refine pure_ (i := 4) (N := (some 29)) (v := ?_) (a' := ?_) #[true, true, true, false, true, false, false, false, false, false, false, false, false, false, false, false, false] rfl rfl (any_of HT_.out (by kernel_rfl)) (fun _ _ _ h => h) (Or.inl ⟨by rfl, ?_⟩) ?_ ?_
    rotate_left
    · intro w'
      go_simp
      with_reducible rfl
    rotate_left
    · simp only [Act.put, List.setIfInBounds_toArray, List.set_cons_zero, List.set_cons_succ, i64_w, i32_w]
      rfl
    refine pure_ (i := 5) (N := (some 30)) (v := ?_) (a' := ?_) #[true, true, true, false, true, true, false, false, false, false, false, false, false, false, false, false, false] rfl rfl (any_of HT_.out (by kernel_rfl)) (fun _ _ _ h => h) (Or.inl ⟨by rfl, ?_⟩) ?_ ?_
    rotate_left
    · intro w'
      go_simp
      with_reducible rfl
    rotate_left
    · simp only [Act.put, List.setIfInBounds_toArray, List.set_cons_zero, List.set_cons_succ, i64_w, i32_w]
      rfl
    refine pure_ (i := 6) (N := (some 31)) (v := ?_) (a' := ?_) #[true, true, true, false, true, true, true, false, false, false, false, false, false, false, false, false, false] rfl rfl (any_of HT_.out (by kernel_rfl)) (fun _ _ _ h => h) (Or.inl ⟨by rfl, ?_⟩) ?_ ?_
    rotate_left
    · intro w'
      go_simp
      with_reducible rfl
    rotate_left
    · simp only [Act.put, List.setIfInBounds_toArray, List.set_cons_zero, List.set_cons_succ, i64_w, i32_w]
      rfl
    refine pure_ (i := 7) (N := (some 32)) (v := ?_) (a' := ?_) #[true, true, true, false, true, true, true, true, false, false, false, false, false, false, false, false, false] rfl rfl (any_of HT_.out (by kernel_rfl)) (fun _ _ _ h => h) (Or.inl ⟨by rfl, ?_⟩) ?_ ?_
    rotate_left
    · intro w'
      go_simp
      with_reducible rfl
    rotate_left
    · simp only [Act.put, List.setIfInBounds_toArray, List.set_cons_zero, List.set_cons_succ, i64_w, i32_w]
      rfl
    refine pure_ (i := 10) (N := (some 35)) (v := ?_) (a' := ?_) #[true, true, true, false, true, true, true, true, false, false, true, false, false, false, false, false, false] rfl rfl (any_of HT_.out (by kernel_rfl)) (fun _ _ _ h => h) (Or.inl ⟨by rfl, ?_⟩) ?_ ?_
    rotate_left
    · intro w'
      go_simp
      with_reducible rfl
    rotate_left
    · simp only [Act.put, List.setIfInBounds_toArray, List.set_cons_zero, List.set_cons_succ, i64_w, i32_w]
      rfl
    refine pure_ (i := 14) (N := (some 39)) (v := ?_) (a' := ?_) #[true, true, true, false, true, true, true, true, false, false, true, false, false, false, true, false, false] rfl rfl (any_of HT_.out (by kernel_rfl)) (fun _ _ _ h => h) (Or.inl ⟨by rfl, ?_⟩) ?_ ?_
    rotate_left
    · intro w'
      go_simp
      with_reducible rfl
    rotate_left
    · simp only [Act.put, List.setIfInBounds_toArray, List.set_cons_zero, List.set_cons_succ, i64_w, i32_w]
      rfl
    refine take_ (i := 3) (N := (some 28)) (v := ?_) (a' := ?_) #[true, true, true, true, true, true, true, true, false, false, true, false, false, false, true, false, false] rfl rfl (take_ofW HT_.out HW_.out (by kernel_rfl)) (fun _ _ _ h => h) (Or.inl ⟨by rfl, ?_⟩) hHeld ?_ ?_
    rotate_left
    · rintro w' ⟨s0, s1, s2⟩
      go_simp
      with_reducible rfl
    rotate_left
    · simp only [Act.put, List.setIfInBounds_toArray, List.set_cons_zero, List.set_cons_succ, i64_w, i32_w]
      rfl
    refine take_ (i := 8) (N := (some 33)) (v := ?_) (a' := ?_) #[true, true, true, true, true, true, true, true, true, false, true, false, false, false, true, false, false] rfl rfl (take_ofW HT_.out HW_.out (by kernel_rfl)) (fun _ _ _ h => h) (Or.inl ⟨by rfl, ?_⟩) hHeld ?_ ?_
    rotate_left
    · rintro w' ⟨s0, s1, s2⟩
      go_simp
      with_reducible rfl
    rotate_left
    · simp only [Act.put, List.setIfInBounds_toArray, List.set_cons_zero, List.set_cons_succ, i64_w, i32_w]
      rfl
    refine pure_ (i := 9) (N := (some 34)) (v := ?_) (a' := ?_) #[true, true, true, true, true, true, true, true, true, true, true, false, false, false, true, false, false] rfl rfl (any_of HT_.out (by kernel_rfl)) (fun _ _ _ h => h) (Or.inl ⟨by rfl, ?_⟩) ?_ ?_
    rotate_left
    · intro w'
      go_simp
      with_reducible rfl
    rotate_left
    · simp only [Act.put, List.setIfInBounds_toArray, List.set_cons_zero, List.set_cons_succ, i64_w, i32_w]
      rfl
    refine pure_ (i := 11) (N := (some 36)) (v := ?_) (a' := ?_) #[true, true, true, true, true, true, true, true, true, true, true, true, false, false, true, false, false] rfl rfl (any_of HT_.out (by kernel_rfl)) (fun _ _ _ h => h) (Or.inl ⟨by rfl, ?_⟩) ?_ ?_
    rotate_left
    · intro w'
      go_simp
      with_reducible rfl
    rotate_left
    · simp only [Act.put, List.setIfInBounds_toArray, List.set_cons_zero, List.set_cons_succ, i64_w, i32_w]
      rfl
    refine pure_ (i := 12) (N := (some 37)) (v := ?_) (a' := ?_) #[true, true, true, true, true, true, true, true, true, true, true, true, true, false, true, false, false] rfl rfl (any_of HT_.out (by kernel_rfl)) (fun _ _ _ h => h) (Or.inl ⟨by rfl, ?_⟩) ?_ ?_
    rotate_left
    · intro w'
      go_simp
      with_reducible rfl
    rotate_left
    · simp only [Act.put, List.setIfInBounds_toArray, List.set_cons_zero, List.set_cons_succ, i64_w, i32_w]
      rfl
    refine take_ (i := 13) (N := (some 38)) (v := ?_) (a' := ?_) #[true, true, true, true, true, true, true, true, true, true, true, true, true, true, true, false, false] rfl rfl (take_ofW HT_.out HW_.out (by kernel_rfl)) (fun _ _ _ h => h) (Or.inl ⟨by rfl, ?_⟩) hHeld ?_ ?_
    rotate_left
    · rintro w' ⟨s0, s1, s2⟩
      go_simp
      with_reducible rfl
    rotate_left
    · simp only [Act.put, List.setIfInBounds_toArray, List.set_cons_zero, List.set_cons_succ, i64_w, i32_w]
      rfl
    refine pure_ (i := 15) (N := (some 40)) (v := ?_) (a' := ?_) #[true, true, true, true, true, true, true, true, true, true, true, true, true, true, true, true, false] rfl rfl (any_of HT_.out (by kernel_rfl)) (fun _ _ _ h => h) (Or.inl ⟨by rfl, ?_⟩) ?_ ?_
    rotate_left
    · intro w'
      go_simp
      with_reducible rfl
    rotate_left
    · simp only [Act.put, List.setIfInBounds_toArray, List.set_cons_zero, List.set_cons_succ, i64_w, i32_w]
      rfl
    refine pure_ (i := 16) (N := (some 14)) (v := ?_) (a' := ?_) #[true, true, true, true, true, true, true, true, true, true, true, true, true, true, true, true, true] rfl rfl (any_of HT_.out (by kernel_rfl)) (fun _ _ _ h => h) (Or.inl ⟨by rfl, ?_⟩) ?_ ?_
    rotate_left
    · intro w'
      go_simp
      with_reducible rfl
    rotate_left
    · simp only [Act.put, List.setIfInBounds_toArray, List.set_cons_zero, List.set_cons_succ, i64_w, i32_w]
      rfl
    refine done_ (done_of HT_.out (by kernel_rfl)) ?_
    go_wp2_with (fail)
    refine (seal_Spoil.calls _ Af cf l p m l2 ec _ HCW.out HLF.out HT.out).mono ?_
    rintro e w5 ⟨v5, rfl, hR5, hb5⟩
    have HB5 := Aside0.mk ((below_drew1 (pw_below_drewN (Below.refl w.heap.size w) nd)).trans hb5)
    clear hR5 hb5 HRR HLN HCF HCW HFR HS qf qs HT
    go_wp2
    go_ret
    exact ⟨P, rfl, HH.out.below HB5.out, Went.below HB5.out P⟩
end Go.Proofs.Ytchepjbdaojidaa.PBags
namespace Go.Proofs.Ytchepjbdaojidaa.PBags
open Go.RowKit Go.Proofs.YtchepjbdaojidaaW.PrintWords Go.Proofs.YtchepjbdaojidaaW.PrintLast Go.Proofs.YtchepjbdaojidaaW.PrintMore
attribute [local go_sem] max2_int min2_int max_two min_two max_three min_three max_four min_four
set_option linter.unusedVariables false
set_option linter.unusedSimpArgs false
def ways.T7 : Bool × List (List Nat × List Nat) := (true, [([], []), ([], []), ([], []), ([2], [2]), ([3], [3]), ([4], [4]), ([1, 5], [1, 5]), ([], []), ([], []), ([8], [8]), ([9], [9]), ([10], [10]), ([7, 11], [7, 11]), ([], []), ([6, 12, 13], [6, 12, 13]), ([14], [14]), ([0, 15], [0, 15]), ([16, 16, 0, 1, 2, 3, 4, 5, 6, 7, 8, 9, 10, 11, 12, 13, 14, 15, 16], [16])])
def ways.B7 : List Nat := [0, 0, 0, 4, 12, 28, 62, 0, 0, 256, 768, 1792, 3968, 0, 16382, 32766, 65535, 131071]
theorem ways.tab7 : rtab .any (opsOf Try.f22 7) = ways.T7 := by kernel_rfl
theorem ways.bits7 : waitsOk ways.T7.2 ways.B7 = true := by kernel_rfl
/-- The link k as a way: none if it has no frames. -/
def wayAt (n : Nat) (bs : List (List Frame)) (k : Nat) : List S55 := if (bs.getD k []).length = 0 then [] else [⟨((k / n : Nat) : Int), ((k % n : Nat) : Int), ((bs.getD k []).length : Int)⟩]
/-- The ways of the first m links. -/
def waysL (n : Nat) (bs : List (List Frame)) : Nat → List S55
  | 0 => []
  | m + 1 => waysL n bs m ++ wayAt n bs m
theorem ways_length (n : Nat) (bs : List (List Frame)) (m : Nat) : (waysL n bs m).length ≤ m := by
  induction m with
  | zero => exact Nat.le_refl _
  | succ m ih =>
    unfold waysL wayAt
    rw [List.length_append]
    split <;> simp <;> omega
/-- At the head of a round. -/
def WInv (w : World) (n : Nat) (bs : List (List Frame)) (m : Nat) (wr : World) : Prop :=
  ∃ v, wr.heap[w.heap.size]? = some (.cells #[v] 52 (0, 0)) ∧ k55.R 55 wr (w.heap.size + 1) (fun _ => True) v (waysL n bs m) ∧ Below w.heap.size w wr
theorem winv_start (w : World) (n : Nat) (bs : List (List Frame)) : WInv w n bs 0 (w.alloc (.cells #[.slice none 0 0] 52)) := ⟨_, Mem.alloc_new _ _, Kd.R_nil _ _ _ _ _, below_alloc (Below.refl _ _) _⟩
theorem winv_drew {w wr : World} {n m : Nat} {bs : List (List Frame)} (h : WInv w n bs m wr) : WInv w n bs m wr.drew := by
  obtain ⟨v, h1, h2, h3⟩ := h
  exact ⟨v, h1, Kd.R_drew h2, below_drew1 h3⟩
theorem quo_nat (i n : Nat) (hi : i ≤ 1000000) : IntKind.i64.wrap ((i : Int) / (n : Int)) = (i : Int) / (n : Int) := by
  rw [← Int.natCast_ediv, IntKind.wrap_i64]
  have := Nat.div_le_self i n
  generalize i / n = q at *
  omega
theorem wrap_next {m : Nat} (h : m ≤ 999999) : wrap64 ((m : Int) + 1) = (m : Int) + 1 := by unfold wrap64; omega
theorem way_eq (n m len : Nat) : ([⟨((m / n : Nat) : Int), ((m % n : Nat) : Int), (len : Int)⟩] : List S55) = [⟨(m : Int) / (n : Int), (m : Int).tmod (n : Int), (len : Int)⟩] := by
  rw [Int.natCast_ediv, Int.ofNat_tmod]
theorem room24 {a m nn : Nat} (h1 : a ≤ m) (h2 : m ≤ nn) (h3 : nn ≤ 4096) : (a + 1) * 24 ≤ 140737488355328 := by omega
theorem winv_put {w wr w1 : World} {n m len : Nat} {bs : List (List Frame)} {u v1 : Value} {ws : List S55} (hbox : wr.heap[w.heap.size]? = some (.cells #[u] 52 (0, 0))) (hB : Below w.heap.size w wr)
    (ho : k55.R 55 w1 (w.heap.size + 1) (fun _ => True) v1 ws) (hb : Below (w.heap.size + 1) wr.drew w1) (e : waysL n bs (m + 1) = ws) : WInv w n bs (m + 1) (w1.setCell ⟨w.heap.size, 0, none⟩ v1) := by
  refine ⟨v1, ?_, ?_, ?_⟩
  · exact Mem.set_heap ((hb.block w.heap.size (Nat.lt_succ_self _)).trans hbox) 0 v1
  · rw [e]
    exact Kd.R_mono (Kd.R_far (p := ⟨w.heap.size, 0, none⟩) (Kd.R_mono (Kd.R_bound ho) (ok' := fun k => w.heap.size + 1 ≤ k) (fun k hk => hk.2.1)) (fun k hk he => by have : k = w.heap.size := he; omega) v1) (fun _ _ => trivial)
  · exact below_set (hB.trans (((below_drew1 (Below.refl (w.heap.size + 1) wr)).trans hb).mono (Nat.le_succ _))) (Nat.le_refl _)
set_option maxHeartbeats 8000000 in
set_option maxRecDepth 100000 in
theorem ways_calls {w : World} {P : Nat → Prop} {g n : Nat} {bs : List (List Frame)} (h : NetI w 0 P g n bs) :
    Calls Try.prog 22 #[.pointer (some ⟨g, 0, none⟩)] w fun e w' => e = .returned (.func (.func 38) #[] #[.pointer (some ⟨w.heap.size, 0, none⟩)]) ∧ WInv w n bs (n * n) w' := by
  have HH := Aside0.mk h
  have hn := h.size.2.2
  have hn1 := h.size.2.1
  have q0 := h.size.1
  have hm : n * n ≤ 4096 := Nat.le_trans (Nat.mul_le_mul hn hn) (by decide)
  have hw1 : wrap64 ((n : Int) * (n : Int)) = ((n * n : Nat) : Int) := by rw [← Int.natCast_mul]; exact wrap_nat (Nat.le_trans hm (by decide))
  have hmul : (n : Int) * (n : Int) = ((n * n : Nat) : Int) := (Int.natCast_mul n n).symm
  have HN := Aside0.mk (And.intro hn hn1)
  have HM := Aside0.mk hm
  clear h hn hn1 hm
  obtain ⟨nn, hnn⟩ : ∃ nn, n * n = nn := ⟨_, rfl⟩
  have HNN := Aside0.mk hnn
  rw [hnn] at hw1 hmul HM ⊢
  have hwn : wrap64 (nn : Int) = (nn : Int) := wrap_nat (Nat.le_trans HM.out (by decide))
  clear hnn
  have HSZ := Aside0.mk (size_calls (w.alloc (.cells #[.slice none 0 0] 52)) g n (Mem.cell_alloc q0 _))
  go_enter Try.func22, Try.ntmps22
  go_wp2_with (fail)
  refine HSZ.out.mono ?_
  rintro e w' ⟨rfl, rfl⟩
  go_wp2_with (fail)
  refine HSZ.out.mono ?_
  rintro e w' ⟨rfl, rfl⟩
  clear HSZ
  go_wp2
  go_loopw [11] (fun v wr => ∃ m : Nat, v = .int .i64 (m : Int) ∧ m ≤ nn ∧ Aside0 (WInv w n bs m wr)) (fun v _ => nn - (intOf v).toNat)
  case atStart => exact ⟨0, rfl, Nat.zero_le _, ⟨winv_start w n bs⟩⟩
  case round =>
    obtain ⟨m, rfl, hmn, HI⟩ := hrel
    clear q0
    by_cases hlt : m < nn
    · obtain ⟨v, hbox, hRv, hB⟩ := HI.out
      obtain ⟨B, cc, Ak, ck, oki, hg, hc, _, _, _, _, _, _⟩ := HH.out.bag m (by rw [HNN.out]; exact hlt)
      rw [HNN.out] at hg
      have q1 := (hB.cell (World.block_lt_of_cell? w _ (Mem.cell_of hg 1))).trans (Mem.cell_of hg 1)
      have q0 := (hB.cell (World.block_lt_of_cell? w _ (Mem.cell_of hg 0))).trans (Mem.cell_of hg 0)
      have qB := (hB.cell (World.block_lt_of_cell? w _ hc)).trans hc
      rw [show (#[Value.int .i64 (n : Int), .slice (some ⟨B, 0, none⟩) nn cc] : Array Value)[1]? = some (.slice (some ⟨B, 0, none⟩) nn cc) from rfl] at q1
      rw [show (#[Value.int .i64 (n : Int), .slice (some ⟨B, 0, none⟩) nn cc] : Array Value)[0]? = some (.int .i64 (n : Int)) from rfl] at q0
      have hw3 := wrap_next (m := m) (Nat.le_trans (Nat.le_of_lt hlt) (Nat.le_trans HM.out (by decide)))
      have b1 : (0 ≤ (m : Int)) = True := eq_true (Int.natCast_nonneg _)
      have b2 : ((m : Int) < (nn : Int)) = True := eq_true (Int.ofNat_lt.2 hlt)
      have b3 : (m < nn) = True := eq_true hlt
      have hws : waysL n bs (m + 1) = waysL n bs m ++ wayAt n bs m := rfl
      have hwk := ways_length n bs m
      unfold wayAt at hws
      have HS0 := Aside0.mk (winv_drew HI.out)
      generalize (bs.getD m []).length = len at *
      obtain ⟨ws, hws0⟩ : ∃ ws, waysL n bs m = ws := ⟨_, rfl⟩
      rw [hws0] at hws hRv hwk
      have HWS := Aside0.mk (And.intro hws hws0)
      have HWK := Aside0.mk hwk
      have HRV := Aside0.mk hRv
      have HBX := Aside0.mk hbox
      have HB := Aside0.mk hB
      have HGW := Aside0.mk hg
      clear hg hc hws hws0 hRv hbox hB hwk HI
      by_cases hz : len = 0
      · subst hz
        go_wp2
        go_roundw
        case rel =>
          refine ⟨m + 1, by rw [hw3]; rfl, hlt, ⟨v, HBX.out, ?_, HB.out⟩⟩
          rw [HWS.out.1, if_pos rfl, List.append_nil]
          exact HRV.out
        case measure => rw [hw3]; exact Nat.sub_lt_sub_left hlt (Nat.lt_succ_self _)
      · have hlp : 0 < len := Nat.pos_of_ne_zero hz
        have e1 : decide (0 < (len : Int)) = true := decide_eq_true (Int.natCast_pos.2 hlp)
        have e1' : decide ((len : Int) > 0) = true := decide_eq_true (Int.natCast_pos.2 hlp)
        have e1p : (0 < len) = True := eq_true hlp
        clear hlp
        have e2 : ((n : Int) == 0) = false := by rw [beq_eq_false_iff_ne]; exact Int.natCast_ne_zero.2 (Nat.ne_of_gt HN.out.2)
        have e3 : (n = 0) = False := eq_false (Nat.ne_of_gt HN.out.2)
        have hq1 := quo_nat m n (Nat.le_trans (Nat.le_of_lt hlt) (Nat.le_trans HM.out (by decide)))
        obtain ⟨Av, cv, rfl⟩ := Kd.R_slice HRV.out
        have qb := Mem.cell_of HBX.out 0
        rw [show (#[Value.slice Av ws.length cv] : Array Value)[0]? = some (.slice Av ws.length cv) from rfl] at qb
        have HZ := Aside0.mk hz
        clear hz
        go_wp2_with (fail)
        have HS : Aside0 (wr.drew.cell? ⟨g, 1, none⟩ = _ ∧ wr.drew.cell? ⟨g, 0, none⟩ = _ ∧ wr.drew.cell? ⟨w.heap.size, 0, none⟩ = _) := ⟨q1, q0, qb⟩
        clear HS0 q1 q0 qB qb
        refine start_ (n := 18) (S := (fun w' => w'.cell? ⟨g, 1, none⟩ = some (.slice (some ⟨B, 0, none⟩) nn cc) ∧ w'.cell? ⟨g, 0, none⟩ = some (.int .i64 (n : Int)) ∧ w'.cell? ⟨w.heap.size, 0, none⟩ = some (.slice Av ws.length cv))) (ds := [17]) #[false, false, false, false, false, false, false, false, false, false, false, false, false, false, false, false, false, false] (by kernel_rfl) rfl rfl (HS.out) (fun hHeld => ?_)
        refine with_tabW ways.tab7 ways.bits7 (fun HT_ HW_ => ?_)
        refine pure_ (i := 1) (N := (some 25)) (v := ?_) (a' := ?_) #[false, true, false, false, false, false, false, false, false, false, false, false, false, false, false, false, false, false] rfl rfl (any_of HT_.out (by kernel_rfl)) (fun _ _ _ h => h) (Or.inl ⟨by rfl, ?_⟩) ?_ ?_
        rotate_left
        · intro w'
          go_simp
          with_reducible rfl
        rotate_left
        · simp only [Act.put, List.setIfInBounds_toArray, List.set_cons_zero, List.set_cons_succ, i64_w, i32_w]
          rfl
        refine pure_ (i := 2) (N := (some 26)) (v := ?_) (a' := ?_) #[false, true, true, false, false, false, false, false, false, false, false, false, false, false, false, false, false, false] rfl rfl (any_of HT_.out (by kernel_rfl)) (fun _ _ _ h => h) (Or.inl ⟨by rfl, ?_⟩) ?_ ?_
        rotate_left
        · intro w'
          go_simp
          with_reducible rfl
        rotate_left
        · simp only [Act.put, List.setIfInBounds_toArray, List.set_cons_zero, List.set_cons_succ, i64_w, i32_w]
          rfl
        refine pure_ (i := 3) (N := (some 27)) (v := ?_) (a' := ?_) #[false, true, true, true, false, false, false, false, false, false, false, false, false, false, false, false, false, false] rfl rfl (any_of HT_.out (by kernel_rfl)) (fun _ _ _ h => h) (Or.inl ⟨by rfl, ?_⟩) ?_ ?_
        rotate_left
        · intro w'
          go_simp
          with_reducible rfl
        rotate_left
        · simp only [Act.put, List.setIfInBounds_toArray, List.set_cons_zero, List.set_cons_succ, i64_w, i32_w]
          rfl
        refine pure_ (i := 4) (N := (some 28)) (v := ?_) (a' := ?_) #[false, true, true, true, true, false, false, false, false, false, false, false, false, false, false, false, false, false] rfl rfl (any_of HT_.out (by kernel_rfl)) (fun _ _ _ h => h) (Or.inl ⟨by rfl, ?_⟩) ?_ ?_
        rotate_left
        · intro w'
          go_simp
          with_reducible rfl
        rotate_left
        · simp only [Act.put, List.setIfInBounds_toArray, List.set_cons_zero, List.set_cons_succ, i64_w, i32_w]
          rfl
        refine pure_ (i := 7) (N := (some 31)) (v := ?_) (a' := ?_) #[false, true, true, true, true, false, false, true, false, false, false, false, false, false, false, false, false, false] rfl rfl (any_of HT_.out (by kernel_rfl)) (fun _ _ _ h => h) (Or.inl ⟨by rfl, ?_⟩) ?_ ?_
        rotate_left
        · intro w'
          go_simp
          with_reducible rfl
        rotate_left
        · simp only [Act.put, List.setIfInBounds_toArray, List.set_cons_zero, List.set_cons_succ, i64_w, i32_w]
          rfl
        refine pure_ (i := 8) (N := (some 32)) (v := ?_) (a' := ?_) #[false, true, true, true, true, false, false, true, true, false, false, false, false, false, false, false, false, false] rfl rfl (any_of HT_.out (by kernel_rfl)) (fun _ _ _ h => h) (Or.inl ⟨by rfl, ?_⟩) ?_ ?_
        rotate_left
        · intro w'
          go_simp
          with_reducible rfl
        rotate_left
        · simp only [Act.put, List.setIfInBounds_toArray, List.set_cons_zero, List.set_cons_succ, i64_w, i32_w]
          rfl
        refine pure_ (i := 9) (N := (some 33)) (v := ?_) (a' := ?_) #[false, true, true, true, true, false, false, true, true, true, false, false, false, false, false, false, false, false] rfl rfl (any_of HT_.out (by kernel_rfl)) (fun _ _ _ h => h) (Or.inl ⟨by rfl, ?_⟩) ?_ ?_
        rotate_left
        · intro w'
          go_simp
          with_reducible rfl
        rotate_left
        · simp only [Act.put, List.setIfInBounds_toArray, List.set_cons_zero, List.set_cons_succ, i64_w, i32_w]
          rfl
        refine pure_ (i := 10) (N := (some 34)) (v := ?_) (a' := ?_) #[false, true, true, true, true, false, false, true, true, true, true, false, false, false, false, false, false, false] rfl rfl (any_of HT_.out (by kernel_rfl)) (fun _ _ _ h => h) (Or.inl ⟨by rfl, ?_⟩) ?_ ?_
        rotate_left
        · intro w'
          go_simp
          with_reducible rfl
        rotate_left
        · simp only [Act.put, List.setIfInBounds_toArray, List.set_cons_zero, List.set_cons_succ, i64_w, i32_w]
          rfl
        refine pure_ (i := 13) (N := (some 37)) (v := ?_) (a' := ?_) #[false, true, true, true, true, false, false, true, true, true, true, false, false, true, false, false, false, false] rfl rfl (any_of HT_.out (by kernel_rfl)) (fun _ _ _ h => h) (Or.inl ⟨by rfl, ?_⟩) ?_ ?_
        rotate_left
        · intro w'
          go_simp
          with_reducible rfl
        rotate_left
        · simp only [Act.put, List.setIfInBounds_toArray, List.set_cons_zero, List.set_cons_succ, i64_w, i32_w]
          rfl
        refine take_ (i := 0) (N := (some 24)) (v := ?_) (a' := ?_) #[true, true, true, true, true, false, false, true, true, true, true, false, false, true, false, false, false, false] rfl rfl (take_ofW HT_.out HW_.out (by kernel_rfl)) (fun _ _ _ h => h) (Or.inl ⟨by rfl, ?_⟩) hHeld ?_ ?_
        rotate_left
        · rintro w' ⟨s0, s1, s2⟩
          go_simp
          with_reducible rfl
        rotate_left
        · simp only [Act.put, List.setIfInBounds_toArray, List.set_cons_zero, List.set_cons_succ, i64_w, i32_w]
          rfl
        refine take_ (i := 5) (N := (some 29)) (v := ?_) (a' := ?_) #[true, true, true, true, true, true, false, true, true, true, true, false, false, true, false, false, false, false] rfl rfl (take_ofW HT_.out HW_.out (by kernel_rfl)) (fun _ _ _ h => h) (Or.inl ⟨by rfl, ?_⟩) hHeld ?_ ?_
        rotate_left
        · rintro w' ⟨s0, s1, s2⟩
          go_simp
          with_reducible rfl
        rotate_left
        · simp only [Act.put, List.setIfInBounds_toArray, List.set_cons_zero, List.set_cons_succ, i64_w, i32_w]
          rfl
        refine pure_ (i := 6) (N := (some 30)) (v := ?_) (a' := ?_) #[true, true, true, true, true, true, true, true, true, true, true, false, false, true, false, false, false, false] rfl rfl (any_of HT_.out (by kernel_rfl)) (fun _ _ _ h => h) (Or.inl ⟨by rfl, ?_⟩) ?_ ?_
        rotate_left
        · intro w'
          go_simp
          with_reducible rfl
        rotate_left
        · simp only [Act.put, List.setIfInBounds_toArray, List.set_cons_zero, List.set_cons_succ, i64_w, i32_w]
          rfl
        refine take_ (i := 11) (N := (some 35)) (v := ?_) (a' := ?_) #[true, true, true, true, true, true, true, true, true, true, true, true, false, true, false, false, false, false] rfl rfl (take_ofW HT_.out HW_.out (by kernel_rfl)) (fun _ _ _ h => h) (Or.inl ⟨by rfl, ?_⟩) hHeld ?_ ?_
        rotate_left
        · rintro w' ⟨s0, s1, s2⟩
          go_simp
          with_reducible rfl
        rotate_left
        · simp only [Act.put, List.setIfInBounds_toArray, List.set_cons_zero, List.set_cons_succ, i64_w, i32_w]
          rfl
        refine pure_ (i := 12) (N := (some 36)) (v := ?_) (a' := ?_) #[true, true, true, true, true, true, true, true, true, true, true, true, true, true, false, false, false, false] rfl rfl (any_of HT_.out (by kernel_rfl)) (fun _ _ _ h => h) (Or.inl ⟨by rfl, ?_⟩) ?_ ?_
        rotate_left
        · intro w'
          go_simp
          with_reducible rfl
        rotate_left
        · simp only [Act.put, List.setIfInBounds_toArray, List.set_cons_zero, List.set_cons_succ, i64_w, i32_w]
          rfl
        refine pure_ (i := 14) (N := (some 38)) (v := ?_) (a' := ?_) #[true, true, true, true, true, true, true, true, true, true, true, true, true, true, true, false, false, false] rfl rfl (any_of HT_.out (by kernel_rfl)) (fun _ _ _ h => h) (Or.inl ⟨by rfl, ?_⟩) ?_ ?_
        rotate_left
        · intro w'
          go_simp
          with_reducible rfl
        rotate_left
        · simp only [Act.put, List.setIfInBounds_toArray, List.set_cons_zero, List.set_cons_succ, i64_w, i32_w]
          rfl
        refine one_ (i := 15) (N := (some 39)) #[true, true, true, true, true, true, true, true, true, true, true, true, true, true, true, true, false, false] rfl rfl (one_of HT_.out (by kernel_rfl)) (by decide) (fun K hK => ?_)
        refine value_ (w1 := ?_) (v := ?_) (by rfl) rfl ?_ ?_
        rotate_left 2
        · go_simp
          constructor
          · rfl
          · rfl
        refine hK.out _ _ (⟨Mem.cell_alloc hHeld.1 _, Mem.cell_alloc hHeld.2.1 _, Mem.cell_alloc hHeld.2.2 _⟩) (fun hHeld => ?_)
        clear hK K
        refine norm_ (a' := ?_) ?_ ?_
        rotate_left
        · show Act.put _ (some 39) _ = _
          simp only [Act.put, List.setIfInBounds_toArray, List.set_cons_zero, List.set_cons_succ, i64_w, i32_w]
          rfl
        refine one_ (i := 16) (N := (some 40)) #[true, true, true, true, true, true, true, true, true, true, true, true, true, true, true, true, true, false] rfl rfl (one_of HT_.out (by kernel_rfl)) (by decide) (fun K hK => ?_)
        refine Kd.R_append_step k55 (w0 := wr.drew) (w.heap.size + 1) (by rfl) (.tmp 24) (.tmp 39) 52 55 (.agg #[.int .i64 0, .int .i64 0, .int .i64 0]) 24 rfl Try.underlying52 info55 rfl (by decide) (by decide) (.slice Av ws.length cv) ws ⟨(m : Int) / (n : Int), (m : Int).tmod (n : Int), (len : Int)⟩ [.int .i64 ((m : Int) / (n : Int)), .int .i64 ((m : Int).tmod (n : Int)), .int .i64 (len : Int)] (fun _ => True) (fun _ => False) rfl rfl ?hp (fun _ h => h.elim) (fun _ _ => trivial) (Kd.R_drew HRV.out) (Below.refl _ _) (blk_lt HBX.out) (room24 HWK.out (Nat.le_of_lt hlt) HM.out) ?_
        case hp => exact k55_mkM _ _ _ ⟨(m : Int) / (n : Int), (m : Int).tmod (n : Int), (len : Int)⟩
        intro v1 w1 ho hb hg hat
        obtain ⟨A1, c1, rfl⟩ := Kd.R_slice ho
        rw [List.length_append, List.length_singleton] at ho
        have HW1 := Aside0.mk (winv_put (n := n) (m := m) (bs := bs) (len := len) HBX.out HB.out ho hb (by rw [HWS.out.1, if_neg HZ.out, way_eq]))
        have bx := (hb.block w.heap.size (Nat.lt_succ_self _)).trans HBX.out
        have cz := Mem.cell_of bx 0
        rw [show (#[Value.slice Av ws.length cv] : Array Value)[0]? = some (.slice Av ws.length cv) from rfl] at cz
        have fz := Mem.free_of bx 0
        have hgl := blk_lt HGW.out
        have qq1 := (hb.cell (p := ⟨g, 1, none⟩) (Nat.lt_succ_of_lt hgl)).trans HS.out.1
        have qq0 := (hb.cell (p := ⟨g, 0, none⟩) (Nat.lt_succ_of_lt hgl)).trans HS.out.2.1
        clear ho hb hg hat bx hgl
        refine hK.out _ _ (⟨qq1, qq0, cz⟩) (fun hHeld => ?_)
        clear hK K
        refine norm_ (a' := ?_) ?_ ?_
        rotate_left
        · show Act.put _ (some 40) _ = _
          simp only [Act.put, List.setIfInBounds_toArray, List.set_cons_zero, List.set_cons_succ, i64_w, i32_w]
          rfl
        refine last_ (i := 17) (N := none) #[true, true, true, true, true, true, true, true, true, true, true, true, true, true, true, true, true, true] rfl rfl (one_of HT_.out (by kernel_rfl)) (by decide) (fun K hK => ?_)
        refine skip_ (w1 := w1.setCell ⟨w.heap.size, 0, none⟩ (.slice A1 (ws.length + 1) c1)) (by rfl) rfl ?_ ?_
        · go_simp
        refine hK.out _ _ ?_
        clear hK K
        refine done_ (done_of HT_.out (by kernel_rfl)) ?_
        go_wp2
        go_roundw
        case rel => exact ⟨m + 1, by rw [hw3]; rfl, hlt, HW1⟩
        case measure => rw [hw3]; exact Nat.sub_lt_sub_left hlt (Nat.lt_succ_self _)
    · have hmm : m = nn := Nat.le_antisymm hmn (Nat.le_of_not_lt hlt)
      have HI2 := Aside0.mk HI.out
      have HMM := Aside0.mk hmm
      have b3 : (m < nn) = False := eq_false hlt
      clear HI hmm hlt hmn
      go_wp2
      go_ret
      rw [HMM.out] at HI2
      exact ⟨rfl, HI2.out⟩
end Go.Proofs.Ytchepjbdaojidaa.PBags
namespace Go.Proofs.Ytchepjbdaojidaa.PBags
open Go.RowKit Go.Shelf Go.Proofs.YtchepjbdaojidaaW.PrintWords Go.Proofs.YtchepjbdaojidaaW.PrintLast Go.Proofs.YtchepjbdaojidaaW.PrintMore
attribute [local go_sem] Oper.semAt_some
set_option linter.unusedVariables false
set_option linter.unusedSimpArgs false
def encW (x : S55) : Array Value := #[.agg #[.int .i64 x.f0, .int .i64 x.f1, .int .i64 x.f2]]
/-- The blocks S are kept. -/
def Same (S : Nat → Prop) (W W' : World) : Prop := W.heap.size ≤ W'.heap.size ∧ ∀ i, S i → W'.heap[i]? = W.heap[i]?
theorem Same.refl (S : Nat → Prop) (W : World) : Same S W W := ⟨Nat.le_refl _, fun _ _ => rfl⟩
theorem Same.trans {S : Nat → Prop} {W W1 W2 : World} (h : Same S W W1) (k : Same S W1 W2) : Same S W W2 := ⟨Nat.le_trans h.1 k.1, fun i hi => (k.2 i hi).trans (h.2 i hi)⟩
theorem Same.below {S : Nat → Prop} {W W1 : World} {n : Nat} (h : Below n W W1) (hS : ∀ i, S i → i < n) : Same S W W1 := ⟨h.size, fun i hi => h.block i (hS i hi)⟩
theorem Same.put {S : Nat → Prop} (W : World) (l : Nat) (o' : Obj) (hS : ∀ i, S i → i ≠ l) : Same S W (W.putObj l o') := ⟨by simp, fun i hi => World.putObj_heap_other (hS i hi)⟩
theorem Same.set {S : Nat → Prop} (W : World) (p : Addr) (v : Value) (hS : ∀ i, S i → i ≠ p.block) : Same S W (W.setCell p v) := ⟨by simp [World.setCell], fun i hi => Below.heap_setCell W p v i (hS i hi)⟩
/-- The ways that lie in memory, in blocks S. -/
def WayCells (S : Nat → Prop) (W : World) (A : Option Addr) (ws : List S55) : Prop :=
  ∀ k, k < ws.length → ∃ b, A = some ⟨b, 0, none⟩ ∧ S b ∧ W.cell? ⟨b, k * 3, none⟩ = some (.int .i64 (ws.getD k z55).f0) ∧ W.cell? ⟨b, k * 3 + 1, none⟩ = some (.int .i64 (ws.getD k z55).f1) ∧ W.cell? ⟨b, k * 3 + 2, none⟩ = some (.int .i64 (ws.getD k z55).f2)
theorem cell_same {W W1 : World} {b o : Nat} (h : W1.heap[b]? = W.heap[b]?) : W1.cell? ⟨b, o, none⟩ = W.cell? ⟨b, o, none⟩ := by
  unfold World.cell?
  rw [h]
theorem WayCells.same {S : Nat → Prop} {W W1 : World} {A : Option Addr} {ws : List S55} (h : WayCells S W A ws) (hb : Same S W W1) : WayCells S W1 A ws := fun k hk => by
  obtain ⟨b, e, hlt, h0, h1, h2⟩ := h k hk
  exact ⟨b, e, hlt, (cell_same (hb.2 b hlt)).trans h0, (cell_same (hb.2 b hlt)).trans h1, (cell_same (hb.2 b hlt)).trans h2⟩
theorem take_snoc (ws : List S55) {k : Nat} (h : k < ws.length) : ws.take (k + 1) = ws.take k ++ [ws.getD k z55] := by
  rw [List.take_add_one, List.getD_eq_getElem?_getD, List.getElem?_eq_getElem h]; rfl
set_option maxRecDepth 100000 in
set_option maxHeartbeats 8000000 in
theorem ways1_in (S : Nat → Prop) (l Bx c : Nat) (A : Option Addr) (ws : List S55) (hlen : ws.length ≤ 4096) (J Jx : List S55 → World → Prop) (W : World) (hJ : AbidesFrom W.heap.size J)
    (hY : ∀ pre x W1, J pre W1 → pre.length < ws.length → YieldAt Fence.wide 1 Try.prog l (encW x) W1 fun e W' =>
      (e = .returned (.bool true) ∧ J (pre ++ [x]) W' ∧ Same S W1 W') ∨ (e = .returned (.bool false) ∧ Jx (pre ++ [x]) W'))
    (hBx : W.cell? ⟨Bx, 0, none⟩ = some (.slice A ws.length c)) (hS : ∀ i, S i → i < W.heap.size) (hcs : WayCells S W A ws) (h0 : J [] W) :
    CallsIn Fence.wide 2 Try.prog 38 #[.func (.yield l) #[] #[], .pointer (some ⟨Bx, 0, none⟩)] W fun e W' => (∃ v, e = .returned v) ∧
      ((∃ ys, ys = ws ∧ J ys W') ∨ (∃ pre, pre <+: ws ∧ Jx pre W')) := by
  refine callsIn_of_wp Try.func38 rfl trivial ?_ rfl
  simp only [Try.ntmps38, List.size_toArray, List.length_cons, List.length_nil, Nat.reduceAdd, Nat.reduceSub, Array.replicate_succ, Array.replicate_zero, List.push_toArray, List.append_toArray, List.nil_append, List.cons_append]
  gi_wp2
  gi_loopw [7] (fun i wr => ∃ k : Nat, k ≤ ws.length ∧ i = .int .i64 k ∧ J (ws.take k) wr ∧ Same S W wr)
    (fun i _ => ws.length - (intOf i).toNat)
  case atStart => exact ⟨0, Nat.zero_le _, rfl, h0, Same.refl _ _⟩
  case round =>
    obtain ⟨k, hk, rfl, hJs, hnx⟩ := hrel
    by_cases hlt : k < ws.length
    · obtain ⟨b, rfl, hbl, c0, c1, c2⟩ := hcs.same hnx k hlt
      have hsn := take_snoc ws hlt
      obtain ⟨x, hx⟩ : ∃ x, ws.getD k z55 = x := ⟨_, rfl⟩
      rw [hx] at c0 c1 c2 hsn
      obtain ⟨fn, tmps, assign, body, hy, hR⟩ := hY _ x (wr.alloc (.cells #[.int .i64 x.f0, .int .i64 x.f1, .int .i64 x.f2] 55)) (hJ _ wr _ none hJs (World.grownBy_alloc _ _ none) (fun r e => by cases e)) (by rw [List.length_take]; omega)
      dsimp only [encW] at hy
      clear hx
      gi_wp2
      refine hR.mono ?_
      rintro e W3 (⟨rfl, hJ3, hk3⟩ | ⟨rfl, hJx3⟩)
      · gi_wp2
        go_roundw
        case rel => exact ⟨k + 1, by omega, by simp, by rw [hsn]; exact hJ3, hnx.trans ((Same.below ((Below.refl wr.heap.size wr).alloc (Nat.le_refl _) _) (fun i hi => Nat.lt_of_lt_of_le (hS i hi) hnx.1)).trans hk3)⟩
        case measure => simp [intOf]; omega
      · gi_wp2
        refine bodyPost_ret (results_none rfl _ _ _) rfl ?_
        exact ⟨⟨_, rfl⟩, .inr ⟨_, by rw [← hsn]; exact List.take_prefix _ _, hJx3⟩⟩
    · obtain rfl : k = ws.length := by omega
      rw [List.take_length] at hJs
      gi_wp2
      go_end0
      exact ⟨⟨_, rfl⟩, .inl ⟨_, rfl, hJs⟩⟩
/-- What Ways hands back: a function over a box of new memory, in which the ways lie. -/
def WaysOut (W : World) (ws : List S55) (w' : World) : Prop :=
  ∃ A c, w'.cell? ⟨W.heap.size, 0, none⟩ = some (.slice A ws.length c) ∧ WayCells (fun i => W.heap.size ≤ i ∧ i < w'.heap.size) w' A ws ∧ Below W.heap.size W w'
theorem winv_out {w w' : World} {n m : Nat} {bs : List (List Frame)} (h : WInv w n bs m w') : WaysOut w (waysL n bs m) w' := by
  obtain ⟨v, hb, hR, hB⟩ := h
  obtain ⟨A, c, rfl⟩ := Kd.R_slice hR
  refine ⟨A, c, Mem.cell_of hb 0, fun k hk => ?_, hB⟩
  obtain ⟨gb, cap, he, hge, hlt, _⟩ := Kd.R_form hR (by omega)
  injection he with e1 _ _
  subst e1
  obtain ⟨ad, e, g0, g1, g2⟩ := at_T55 (Kd.R_reads' hR).2.2 (k : Int) (Int.natCast_nonneg _) (by omega)
  obtain rfl : (⟨gb, 0, none⟩ : Addr) = ad := by injection e
  rw [Int.toNat_natCast, add_at, Nat.zero_add] at g0 g1 g2
  unfold rd_T55 at g0 g1 g2
  rw [Int.toNat_natCast] at g0 g1 g2
  exact ⟨gb, rfl, ⟨by omega, hlt⟩, g0, g1, g2⟩
theorem ways_out {w : World} {P : Nat → Prop} {g n : Nat} {bs : List (List Frame)} (h : NetI w 0 P g n bs) :
    Calls Try.prog 22 #[.pointer (some ⟨g, 0, none⟩)] w fun e w' => e = .returned (.func (.func 38) #[] #[.pointer (some ⟨w.heap.size, 0, none⟩)]) ∧ WaysOut w (waysL n bs (n * n)) w' :=
  (ways_calls h).mono fun e w' ⟨h1, h2⟩ => ⟨h1, winv_out h2⟩
set_option maxRecDepth 100000 in
set_option maxHeartbeats 4000000 in
theorem ways_nil (w : World) : Calls Try.prog 22 #[.pointer none] w fun e w' => e = .returned (.func (.func 38) #[] #[.pointer (some ⟨w.heap.size, 0, none⟩)]) ∧ WaysOut w [] w' := by
  have HSZ := Aside0.mk (size_nil (w.alloc (.cells #[.slice none 0 0] 52)))
  go_enter Try.func22, Try.ntmps22
  go_wp2_with (fail)
  refine HSZ.out.mono ?_
  rintro e w' ⟨rfl, rfl⟩
  go_wp2_with (fail)
  refine HSZ.out.mono ?_
  rintro e w' ⟨rfl, rfl⟩
  clear HSZ
  go_wp2
  go_loopw [11] (fun v wr => v = .int .i64 0 ∧ wr = w.alloc (.cells #[.slice none 0 0] 52)) (fun _ _ => 0)
  case atStart => exact ⟨rfl, rfl⟩
  case round =>
    obtain ⟨rfl, rfl⟩ := hrel
    go_wp2
    go_ret
    exact ⟨rfl, none, 0, Mem.cell_of (Mem.alloc_new _ _) 0, fun k hk => absurd hk (Nat.not_lt_zero k), below_alloc (Below.refl _ _) _⟩
theorem ways_stops {w w' : World} {ws : List S55} (h : WaysOut w ws w') (hlen : ws.length ≤ 4096) :
    SeqStopsK Fence.wide 2 Try.prog 38 #[.pointer (some ⟨w.heap.size, 0, none⟩)] encW (Same (fun i => w.heap.size ≤ i ∧ i < w'.heap.size)) (fun ys => ys = ws) (fun pre => pre <+: ws) ws.length w' := fun l J Jx W hW hJ hJx hY h0 => by
  obtain ⟨A, c, hb, hc, hB⟩ := h
  exact ways1_in _ l w.heap.size c A ws hlen J Jx W hJ hY ((hW.cell (World.block_lt_of_cell? _ _ hb)).trans hb) (fun i hi => Nat.lt_of_lt_of_le hi.2 hW.size) (hc.same (Same.below hW (fun i hi => hi.2))) h0
/-- How many frames there are, as the ways are gone over. -/
def sumW (ws : List S55) : Int := ws.foldl (fun s x => wrap64 (s + x.f2)) 0
theorem sumW_snoc (pre : List S55) (x : S55) : sumW (pre ++ [x]) = wrap64 (sumW pre + x.f2) := by simp [sumW]
theorem cells_own {β : Type} (B : Nat) (t : TypeId) (f : β → Array Value) : Own (fun s W => W.heap[B]? = some (.cells (f s) t (0, 0))) := fun s X Y row hs hg hrow =>
  (hg.block B (blk_lt hs) (fun e' => by obtain ⟨o, ho, hc⟩ := hrow B e'.symm; rw [hs] at ho; cases ho; cases hc)).trans hs
set_option maxRecDepth 100000 in
set_option maxHeartbeats 8000000 in
theorem len_gen (w : World) (p : Option Addr) (ws : List S55) (hlen : ws.length ≤ 4096) (hw : ∀ W, Below w.heap.size w W → Calls Try.prog 22 #[.pointer p] W fun e w' => e = .returned (.func (.func 38) #[] #[.pointer (some ⟨W.heap.size, 0, none⟩)]) ∧ WaysOut W ws w') :
    Calls Try.prog 12 #[.pointer p] w fun e w' => e = .returned (.int .i64 (sumW ws)) ∧ Below w.heap.size w w' := by
  refine (callsIn_wide (n := 3)).1 ?_
  refine callsIn_of_wp_marks Try.func12 rfl trivial ?_ rfl
  simp only [Try.ntmps12, List.size_toArray, List.length_cons, List.length_nil, Nat.reduceAdd, Nat.reduceSub, Array.replicate_succ, Array.replicate_zero, List.push_toArray, List.append_toArray, List.nil_append, List.cons_append]
  have hb0 : Below w.heap.size w (w.alloc (.cells #[.int .i64 0] 3)) := (Below.refl _ w).alloc (Nat.le_refl _) _
  gi_wp2_with (refine ⟨trivial, ?_⟩; gi_at_call 22; refine (callsIn_wide (n := 2).2 (hw _ hb0)).mono ?_; rintro e w' ⟨rfl, ho⟩)
  have bS := Boxed.new w 3 (.int .i64 0)
  have hout := ho
  obtain ⟨A, c, hbx, hcs, hbl⟩ := ho
  have bS1 : Boxed w' w.heap.size 3 (.int .i64 0) := (hbl.block w.heap.size (by rw [World.size_alloc]; omega)).trans bS
  have hB1 := hb0.trans (hbl.mono (by rw [World.size_alloc]; omega))
  have hsz : w.heap.size + 1 ≤ w'.heap.size := by have := hbl.size; rw [World.size_alloc] at this; exact this
  have hst := ways_stops hout hlen
  rw [World.size_alloc] at hst
  clear hbx hcs hbl hout bS
  refine wpIn_rangeFunc_ownH (n := 3) rfl (by decide) (gf := 38) (lb := #[.pointer (some ⟨w.heap.size + 1, 0, none⟩)]) rfl trivial (enters_of Try.func38 (by kernel_rfl) rfl)
    hst Same.trans (fun W l o o' hl _ _ _ => Same.put W l o' (fun i hi => by omega)) (Below.refl _ _) (fun _ => rfl)
    (fun pre W => Boxed W w.heap.size 3 (.int .i64 (sumW pre)) ∧ (Below w.heap.size w W ∧ w'.heap.size ≤ W.heap.size))
    (fun _ _ _ => False)
    (OwnFrom.and (Own.from (boxed_own _ _ _) _) (OwnFrom.and (ownFrom_below (Nat.le_refl _) (by omega)) (fun s X Y row hs hg hr => Nat.le_trans hs hg.size)))
    (fun _ _ _ _ _ hs _ _ => hs)
    ⟨bS1, hB1, Nat.le_refl _⟩
    (fun x a' W => ∃ Bx, w.heap.size < Bx ∧ W.heap[Bx]? = some (.cells #[.int .i64 x.f0, .int .i64 x.f1, .int .i64 x.f2] 55 (0, 0)) ∧ a' = { tmps := #[.pointer p, undef, .int .i64 0, .pointer (some ⟨w.heap.size, 0, none⟩), .pointer (some ⟨Bx, 0, none⟩), .pointer p, .func (.func 38) #[] #[.pointer (some ⟨w.heap.size + 1, 0, none⟩)], .agg #[.int .i64 x.f0, .int .i64 x.f1, .int .i64 x.f2], undef, undef, undef, undef, undef], defers := [] })
    (fun x a' _ X Y row hs hg hr => by obtain ⟨Bx, h1, h2, h3⟩ := hs; exact ⟨Bx, h1, cells_own Bx 55 (fun (_ : Unit) => #[Value.int .i64 x.f0, .int .i64 x.f1, .int .i64 x.f2]) () X Y row h2 hg (fun r e => (hr r e).2), h3⟩)
    ?assign ?body ?done ?stop
  case assign =>
    rintro l pre x W K ⟨bS2, hB2, hS2⟩ hK
    dsimp only [encW]
    gi_wp2
    exact hK _ _ ((KeepsOthers.alloc _ _).from _) (Same.below ((Below.refl W.heap.size W).alloc (Nat.le_refl _) _) (fun i hi => Nat.lt_of_lt_of_le hi.2 hS2)) ⟨bS2.alloc _, hB2.alloc hB2.size _, Nat.le_trans hS2 (by rw [World.size_alloc]; omega)⟩ ⟨W.heap.size, bS2.lt, Mem.alloc_new _ _, rfl⟩
  case body =>
    rintro l pre x a' W hl ⟨r, hr⟩ ⟨bS2, hB2, hS2⟩ ⟨Bx, hBx, bX, rfl⟩ hlt
    have cB := bS2.cell
    have fB := bS2.frozen
    have cX : W.cell? ⟨Bx, 2, none⟩ = some (.int .i64 x.f2) := Mem.cell_of bX 2
    gi_wp2
    exact ⟨(KeepsOthers.setCell _ _ _).from _, Same.set W _ _ (fun i hi => by show i ≠ w.heap.size; omega), ⟨by rw [sumW_snoc]; exact bS2.set _, hB2.setCell (p := ⟨w.heap.size, 0, none⟩) (Nat.le_refl _) _, by simpa [World.setCell] using hS2⟩⟩
  case done =>
    rintro D ys W hD rfl ⟨bS2, hB2, hS2⟩ hK
    have cB := bS2.cell
    gi_wp2
    refine ⟨by simp, .inl ⟨_, _, rfl, run_takeDeferred hK, ?_⟩⟩
    exact ⟨_, results_tmp rfl _ _ _, rfl, hB2.trans (belowK_b (w := w') (Nat.le_of_lt hsz) W D _ _ hD hK rfl rfl)⟩
  case stop =>
    rintro D c pre W _ _ h _
    exact h.elim
/-- How many frames the first m links have. -/
def countF (bs : List (List Frame)) : Nat → Nat
  | 0 => 0
  | m + 1 => countF bs m + (bs.getD m []).length
theorem count_le {bs : List (List Frame)} (hs : Small bs) (m : Nat) : countF bs m ≤ 256 * m := by
  induction m with
  | zero => exact Nat.le_refl _
  | succ m ih =>
    have := (hs m).1
    unfold countF
    omega
theorem sumW_ways {n : Nat} {bs : List (List Frame)} (hs : Small bs) (m : Nat) (hm : m ≤ 4096) : sumW (waysL n bs m) = (countF bs m : Int) := by
  induction m with
  | zero => rfl
  | succ m ih =>
    have ih := ih (by omega)
    have h1 := count_le hs m
    have h2 := (hs m).1
    unfold waysL wayAt countF
    split
    · rename_i h0
      rw [List.append_nil, ih, h0, Nat.add_zero]
    · rw [sumW_snoc, ih]
      show wrap64 ((countF bs m : Int) + ((bs.getD m []).length : Int)) = _
      unfold wrap64
      omega
theorem Net.len {w : World} {P : Nat → Prop} {g n : Nat} {bs : List (List Frame)} (h : Net w P g n bs) :
    Calls Try.prog 12 #[.pointer (some ⟨g, 0, none⟩)] w fun e w' => e = .returned (.int .i64 ((countF bs (n * n) : Nat) : Int)) ∧ Below w.heap.size w w' := by
  have hn := h.i.size.2.2
  have hm : n * n ≤ 4096 := Nat.le_trans (Nat.mul_le_mul hn hn) (by decide)
  rw [← sumW_ways (n := n) h.small (n * n) hm]
  exact len_gen w _ _ (Nat.le_trans (ways_length _ _ _) hm) (fun W hW => ways_out (h.below hW).i)
theorem len_nil (w : World) : Calls Try.prog 12 #[.pointer none] w fun e w' => e = .returned (.int .i64 0) ∧ Below w.heap.size w w' :=
  len_gen w none [] (Nat.zero_le _) (fun W _ => ways_nil W)
end Go.Proofs.Ytchepjbdaojidaa.PBags
namespace Go.Proofs.Ytchepjbdaojidaa.PBags
open Go.RowKit Go.Proofs.YtchepjbdaojidaaW.PrintWords Go.Proofs.YtchepjbdaojidaaW.PrintLast Go.Proofs.YtchepjbdaojidaaW.PrintMore
attribute [local go_sem] max2_int min2_int max_two min_two max_three min_three max_four min_four
set_option linter.unusedVariables false
set_option linter.unusedSimpArgs false
def cln.T10 : Bool × List (List Nat × List Nat) := (true, [([], []), ([0], [0]), ([1], [1]), ([2], [2]), ([], []), ([], []), ([5], [5]), ([6], [6]), ([7], [7]), ([], []), ([8, 9], [8, 9]), ([10], [10]), ([], []), ([12], [12]), ([13], [13]), ([11, 14, 13], [11, 14]), ([3, 4, 0, 1, 2, 3, 4, 5, 6, 7, 8, 9, 10, 11, 12, 13, 14, 15], [3, 4]), ([16, 15, 15, 0, 1, 2, 3, 4, 5, 6, 7, 8, 9, 10, 11, 12, 13, 14, 15], [15, 16])])
def cln.B10 : List Nat := [0, 1, 3, 7, 0, 0, 32, 96, 224, 0, 992, 2016, 0, 4096, 12288, 32736, 65535, 131071]
theorem cln.tab10 : rtab .any (opsOf Try.f26 10) = cln.T10 := by kernel_rfl
theorem cln.bits10 : waitsOk cln.T10.2 cln.B10 = true := by kernel_rfl
/-- The first k bags copied, the others empty. -/
def cl (m : Nat) (bs : List (List Frame)) (k : Nat) : List (List Frame) := bs.take k ++ List.replicate (m - k) []
theorem cl_zero (m : Nat) (bs : List (List Frame)) : cl m bs 0 = List.replicate m [] := rfl
theorem cl_all {m : Nat} {bs : List (List Frame)} (h : bs.length = m) : cl m bs m = bs := by unfold cl; rw [Nat.sub_self, ← h, List.take_length]; exact List.append_nil _
theorem cl_length {m : Nat} {bs : List (List Frame)} (h : bs.length = m) {k : Nat} (hk : k ≤ m) : (cl m bs k).length = m := by unfold cl; rw [List.length_append, List.length_take, List.length_replicate]; omega
theorem cl_at {m : Nat} {bs : List (List Frame)} (h : bs.length = m) {k : Nat} (hk : k < m) : (cl m bs k)[k]? = some [] := by
  unfold cl
  rw [List.getElem?_append_right (by rw [List.length_take]; omega), List.length_take, List.getElem?_replicate, if_pos (by omega)]
theorem cl_next {m : Nat} {bs : List (List Frame)} (h : bs.length = m) {k : Nat} (hk : k < m) : (cl m bs k).set k (bs.getD k []) = cl m bs (k + 1) := by
  unfold cl
  have e1 : m - k = (m - (k + 1)) + 1 := by omega
  rw [List.set_append_right _ _ (by rw [List.length_take]; omega), List.length_take, show k - min k bs.length = 0 from by omega, e1, List.replicate_succ, List.set_cons_zero, List.take_add_one, List.getD_eq_getElem?_getD, List.getElem?_eq_getElem (by omega), List.append_assoc]
  rfl
theorem cl_same {m : Nat} {bs : List (List Frame)} (h : bs.length = m) {k : Nat} (hk : k < m) : (cl m bs k).set k [] = cl m bs k := by
  apply List.ext_getElem?
  intro i
  rw [List.getElem?_set]
  split
  · rename_i e
    subst e
    rw [if_pos (by rw [cl_length h (Nat.le_of_lt hk)]; exact hk), cl_at h hk]
  · rfl
theorem set_getD {α : Type} (xs : List α) (k : Nat) (x d : α) (h : k < xs.length) : (xs.set k x).getD k d = x := by rw [List.getD_eq_getElem?_getD, List.getElem?_set_self h]; rfl
theorem take_next (l : List Frame) {j : Nat} (h : j < l.length) : l.take j ++ [l.getD j ([], false)] = l.take (j + 1) := by
  rw [List.take_add_one, List.getD_eq_getElem?_getD, List.getElem?_eq_getElem h]; rfl
theorem again_f {l : List Int} (sp : Bool) (h : l.length ≤ 65545) : bags_sent_again.f l sp = some (l, sp) := by unfold bags_sent_again.f; rw [Option.bind_some, if_pos (by simp; omega)]; rfl
theorem room32 {j : Nat} (h : j ≤ 256) : (j + 1) * 32 ≤ 140737488355328 := by omega
set_option maxHeartbeats 8000000 in
set_option maxRecDepth 100000 in
theorem clone_nil (w : World) : Calls Try.prog 26 #[.pointer none] w fun e w' => e = .returned (.pointer none) ∧ w' = w := by
  go_enter Try.func26, Try.ntmps26
  go_wp2
  go_ret
  exact ⟨rfl, rfl⟩
/-- In the midst: the new net's links as told. -/
structure CInv (w : World) (g2 n : Nat) (xs : List (List Frame)) (wr : World) : Prop where
  net : NetI wr 0 (fun b => w.heap.size ≤ b) g2 n xs
  below : Below w.heap.size w wr
theorem CInv.put {w wr w5 w6 : World} {g2 n k B cc ck : Nat} {Ak : Option Addr} {xs : List (List Frame)} {ys zs : List Frame} {oki : Nat → Prop} {v : Value} (hB : Below w.heap.size w wr)
    (HL : Lent w5 0 (fun b => w.heap.size ≤ b ∨ wr.heap.size ≤ b) g2 n xs k B cc (.slice Ak ys.length ck) (fun b => oki b ∨ wr.heap.size ≤ b)) (hb5 : Below wr.heap.size wr w5)
    (hR : frameK.R 68 w6 0 (fun b => oki b ∨ wr.heap.size ≤ b) v zs) (hg : w5.grownBy w6 (Value.slice Ak ys.length ck).ownBlock) (hrow : ∀ b, (Value.slice Ak ys.length ck).ownBlock = some b → oki b ∨ wr.heap.size ≤ b) :
    CInv w g2 n (xs.set k zs) (w6.setCell ⟨B, k, none⟩ v) := by
  have HL6 := HL.grown hg hrow
  refine ⟨(HL6.put hR).mono (fun b hb => hb.elim id (fun h => Nat.le_trans hB.size h)), ?_⟩
  have h5 := hB.trans (hb5.mono hB.size)
  have h6 : Below w.heap.size w w6 := h5.grown hg h5.size (fun b e => ((HL.ok b (hrow b e)).1.1).elim id (fun h => Nat.le_trans hB.size h))
  exact below_set h6 (HL6.PB.elim id (fun h => Nat.le_trans hB.size h))
set_option maxHeartbeats 8000000 in
set_option maxRecDepth 100000 in
theorem clone_calls {w : World} {P : Nat → Prop} {g n : Nat} {bs : List (List Frame)} (h : NetI w 0 P g n bs) (hs : Small bs) :
    Calls Try.prog 26 #[.pointer (some ⟨g, 0, none⟩)] w fun e w' => ∃ g2, e = .returned (.pointer (some ⟨g2, 0, none⟩)) ∧ NetI w' 0 (fun b => w.heap.size ≤ b) g2 n bs ∧ Below w.heap.size w w' := by
  have HH := Aside0.mk h
  have HSM := Aside0.mk hs
  obtain ⟨A, c, h1, _, _, hn1, hn, hlen, hS⟩ := h
  obtain ⟨BS, cap, he, _, _, _⟩ := Kd.S_form hS (by rw [hlen]; exact Nat.mul_pos hn1 hn1)
  injection he with e1 e2 e3
  subst e1; subst e3
  have hm : n * n ≤ 4096 := Nat.le_trans (Nat.mul_le_mul hn hn) (by decide)
  have HNW := Aside0.mk (new_calls w n hn1 hn)
  clear hS hs e2
  obtain ⟨nn, hnn⟩ : ∃ nn, n * n = nn := ⟨_, rfl⟩
  have HNN := Aside0.mk hnn
  rw [hnn] at hm hlen h1 HNW
  have HM := Aside0.mk (And.intro hm (And.intro hlen (And.intro hn1 hn)))
  have q0 := Mem.cell_of h1 0
  have q1 := Mem.cell_of h1 1
  rw [show (#[Value.int .i64 (n : Int), .slice (some ⟨BS, 0, none⟩) nn c] : Array Value)[1]? = some (.slice (some ⟨BS, 0, none⟩) nn c) from rfl] at q1
  rw [show (#[Value.int .i64 (n : Int), .slice (some ⟨BS, 0, none⟩) nn c] : Array Value)[0]? = some (.int .i64 (n : Int)) from rfl] at q0
  have HG := Aside0.mk h1
  clear h1 hm hlen hnn hn hn1
  go_enter Try.func26, Try.ntmps26
  go_wp2_with (fail)
  refine HNW.out.mono ?_
  rintro e w1 ⟨g2, rfl, hN1, hB1⟩
  have HN1 := Aside0.mk hN1
  have HB1 := Aside0.mk hB1
  have q1' := (hB1.cell (p := ⟨g, 1, none⟩) (blk_lt HG.out)).trans q1
  clear hN1 hB1 HNW q0 q1
  go_wp2
  have hgl := Aside0.mk (blk_lt HG.out)
  clear q1'
  go_loopw [24] (fun v wr => ∃ k : Nat, v = .int .i64 (k : Int) ∧ k ≤ nn ∧ Aside0 (CInv w g2 n (cl nn bs k) wr)) (fun v _ => nn - (intOf v).toNat)
  case atStart => exact ⟨0, rfl, Nat.zero_le _, ⟨⟨HN1.out.lower.mono (fun _ h => h.1), HB1.out⟩⟩⟩
  case round =>
    obtain ⟨k, rfl, hkn, HI⟩ := hrel
    clear HN1 HB1
    by_cases hlt : k < nn
    · obtain ⟨BS', cS, Ak, ck, okS, hgS, hcS, hlS, hRS, _, _, _, _⟩ := HH.out.bag k (by rw [HNN.out]; exact hlt)
      have eS := HG.out.symm.trans hgS
      rw [HNN.out] at eS
      have eB : BS = BS' := by
        have e := congrArg (fun o : Option Obj => match o with | some (.cells cs _ _) => cs[1]? | _ => none) eS
        have e' : Value.slice (some ⟨BS, 0, none⟩) nn c = Value.slice (some ⟨BS', 0, none⟩) nn cS := Option.some.inj e
        injection e' with e1 _ _
        injection e1 with e1
        injection e1
      subst eB
      have qB := (HI.out.below.cell (World.block_lt_of_cell? w _ hcS)).trans hcS
      have hw3 := wrap_next (m := k) (Nat.le_trans (Nat.le_of_lt hlt) (Nat.le_trans HM.out.1 (by decide)))
      have b1 : (0 ≤ (k : Int)) = True := eq_true (Int.natCast_nonneg _)
      have b2 : ((k : Int) < (nn : Int)) = True := eq_true (Int.ofNat_lt.2 hlt)
      have b3 : (k < nn) = True := eq_true hlt
      have hsm := HSM.out k
      have hnx := cl_next HM.out.2.1 hlt
      have hsame := cl_same HM.out.2.1 hlt
      have hcl := cl_length HM.out.2.1 (Nat.le_of_lt hlt)
      have HK := Aside0.mk (And.intro hnx (And.intro hsame hcl))
      have HRS := Aside0.mk hRS
      have HLT := Aside0.mk hlt
      clear hgS hcS hRS eS hlS hnx hsame hcl hkn
      generalize bs.getD k [] = l at *
      have HSL := Aside0.mk hsm
      clear hsm
      go_wp2
      go_loopw [31] (fun v wr => ∃ j : Nat, v = .int .i64 (j : Int) ∧ j ≤ l.length ∧ Aside0 (CInv w g2 n ((cl nn bs k).set k (l.take j)) wr)) (fun v _ => l.length - (intOf v).toNat)
      case atStart => exact ⟨0, rfl, Nat.zero_le _, ⟨by rw [List.take_zero, HK.out.2.1]; exact HI.out⟩⟩
      case round =>
        obtain ⟨j, rfl, hjl, HJ⟩ := hrel
        clear HI qB
        by_cases hjt : j < l.length
        · obtain ⟨gk, Af, cf, rfl, qf, qs, hlf, hCf⟩ := bag_frame HRS.out j hjt
          have htn := take_next l hjt
          have hmem := HSL.out.2 _ (mem_getD (d := (([], false) : Frame)) hjt)
          have hjlen : ((cl nn bs k).set k (l.take j)).getD k [] = l.take j := set_getD _ _ _ _ (by rw [HK.out.2.2]; exact HLT.out)
          have hss : ((cl nn bs k).set k (l.take j)).set k (l.take j ++ [l.getD j ([], false)]) = (cl nn bs k).set k (l.take (j + 1)) := by rw [htn, List.set_set]
          obtain ⟨B2, cc2, Ak2, ck2, oki2, HL0, hle2, hR0⟩ := HJ.out.net.lend k (by rw [HNN.out]; exact HLT.out)
          have hlen : (l.take j).length = j := by rw [List.length_take]; exact Nat.min_eq_left (Nat.le_of_lt hjt)
          rw [hjlen] at HL0 hR0 hle2
          have HSS := Aside0.mk hss
          have HLN := Aside0.mk hlen
          have hj256 : j ≤ 256 := Nat.le_trans (Nat.le_of_lt hjt) HSL.out.1
          have hw4 := wrap_next (m := j) (Nat.le_trans hj256 (by decide))
          have c1 : (0 ≤ (j : Int)) = True := eq_true (Int.natCast_nonneg _)
          have c2 : ((j : Int) < (l.length : Int)) = True := eq_true (Int.ofNat_lt.2 hjt)
          have c3 : (j < l.length) = True := eq_true hjt
          have qf' := (HJ.out.below.cell (World.block_lt_of_cell? w _ qf)).trans qf
          have qs' := (HJ.out.below.cell (World.block_lt_of_cell? w _ qs)).trans qs
          have HCF := Aside0.mk (Kd.C_below hCf HJ.out.below)
          have HFL := Aside0.mk (And.intro hlf hmem)
          have HJT := Aside0.mk (And.intro hjt hj256)
          have hB2 : B2 < wr.heap.size := World.block_lt_of_cell? wr _ HL0.cell
          have HLW := Aside0.mk (HL0.widen hB2)
          have HRW := Aside0.mk (Kd.R_mono hR0 (ok' := fun b => oki2 b ∨ wr.heap.size ≤ b) (fun _ h => .inl h))
          have HRT := Aside0.mk (Kd.R_lt hR0)
          have p1 := Mem.cell_of HL0.net 1
          have pB := HL0.cell
          rw [show (#[Value.int .i64 (n : Int), .slice (some ⟨B2, 0, none⟩) (n * n) cc2] : Array Value)[1]? = some (.slice (some ⟨B2, 0, none⟩) (n * n) cc2) from rfl, HNN.out] at p1
          clear qf qs hCf hlf hmem htn hjlen hss HL0 hR0 hle2 hB2 hj256 hjl hjt
          generalize l.getD j ([], false) = f at *
          obtain ⟨lf, sp⟩ := f
          dsimp only at qf' qs' HCF HFL
          rw [hlen] at pB
          clear hlen
          have r1 := Mem.cell_alloc p1 (.cells #[.slice Af lf.length cf, .bool sp] 68)
          have r2 := Mem.cell_alloc pB (.cells #[.slice Af lf.length cf, .bool sp] 68)
          have hbx : (wr.alloc (.cells #[.slice Af lf.length cf, .bool sp] 68)).heap[wr.heap.size]? = some (.cells #[.slice Af lf.length cf, .bool sp] 68 (0, 0)) := Mem.alloc_new _ _
          have r3 := Mem.cell_of hbx 0
          have r4 := Mem.cell_of hbx 1
          rw [show (#[Value.slice Af lf.length cf, .bool sp] : Array Value)[0]? = some (.slice Af lf.length cf) from rfl] at r3
          rw [show (#[Value.slice Af lf.length cf, .bool sp] : Array Value)[1]? = some (.bool sp) from rfl] at r4
          have HBX := Aside0.mk hbx
          clear hbx p1 pB
          go_wp2_with (fail)
          have HW0 := Aside0.mk (below_drew1 (below_alloc (Below.refl wr.heap.size wr) (.cells #[.slice Af lf.length cf, .bool sp] 68)))
          have HS : Aside0 ((wr.alloc (.cells #[.slice Af lf.length cf, .bool sp] 68)).drew.cell? ⟨g2, 1, none⟩ = _ ∧ (wr.alloc (.cells #[.slice Af lf.length cf, .bool sp] 68)).drew.cell? ⟨B2, k, none⟩ = _ ∧ (wr.alloc (.cells #[.slice Af lf.length cf, .bool sp] 68)).drew.cell? ⟨wr.heap.size, 0, none⟩ = _ ∧ (wr.alloc (.cells #[.slice Af lf.length cf, .bool sp] 68)).drew.cell? ⟨wr.heap.size, 1, none⟩ = _ ∧ (wr.alloc (.cells #[.slice Af lf.length cf, .bool sp] 68)).drew.heap[wr.heap.size]? = _) := ⟨r1, r2, r3, r4, HBX.out⟩
          clear r1 r2 r3 r4 qf' qs' HBX
          have HAG := Aside0.mk (again_f (l := lf) sp HFL.out.2)
          have HFD := Aside0.mk (Kd.C_below HCF.out HW0.out)
          refine start_ (n := 18) (S := (fun w' => w'.cell? ⟨g2, 1, none⟩ = some (.slice (some ⟨B2, 0, none⟩) nn cc2) ∧ w'.cell? ⟨B2, k, none⟩ = some (.slice Ak2 j ck2) ∧ w'.cell? ⟨wr.heap.size, 0, none⟩ = some (.slice Af lf.length cf) ∧ w'.cell? ⟨wr.heap.size, 1, none⟩ = some (.bool sp) ∧ w'.heap[wr.heap.size]? = some (.cells #[.slice Af lf.length cf, .bool sp] 68 (0, 0)))) (ds := [17]) #[false, false, false, false, false, false, false, false, false, false, false, false, false, false, false, false, false, false] (by kernel_rfl) rfl rfl (HS.out) (fun hHeld => ?_)
          refine with_tabW cln.tab10 cln.bits10 (fun HT_ HW_ => ?_)
          refine pure_ (i := 0) (N := (some 35)) (v := ?_) (a' := ?_) #[true, false, false, false, false, false, false, false, false, false, false, false, false, false, false, false, false, false] rfl rfl (any_of HT_.out (by kernel_rfl)) (fun _ _ _ h => h) (Or.inl ⟨by rfl, ?_⟩) ?_ ?_
          rotate_left
          · intro w'
            go_simp
            with_reducible rfl
          rotate_left
          · simp only [Act.put, List.setIfInBounds_toArray, List.set_cons_zero, List.set_cons_succ, i64_w, i32_w]
            rfl
          refine pure_ (i := 1) (N := (some 36)) (v := ?_) (a' := ?_) #[true, true, false, false, false, false, false, false, false, false, false, false, false, false, false, false, false, false] rfl rfl (any_of HT_.out (by kernel_rfl)) (fun _ _ _ h => h) (Or.inl ⟨by rfl, ?_⟩) ?_ ?_
          rotate_left
          · intro w'
            go_simp
            with_reducible rfl
          rotate_left
          · simp only [Act.put, List.setIfInBounds_toArray, List.set_cons_zero, List.set_cons_succ, i64_w, i32_w]
            rfl
          refine pure_ (i := 2) (N := (some 37)) (v := ?_) (a' := ?_) #[true, true, true, false, false, false, false, false, false, false, false, false, false, false, false, false, false, false] rfl rfl (any_of HT_.out (by kernel_rfl)) (fun _ _ _ h => h) (Or.inl ⟨by rfl, ?_⟩) ?_ ?_
          rotate_left
          · intro w'
            go_simp
            with_reducible rfl
          rotate_left
          · simp only [Act.put, List.setIfInBounds_toArray, List.set_cons_zero, List.set_cons_succ, i64_w, i32_w]
            rfl
          refine pure_ (i := 4) (N := (some 39)) (v := ?_) (a' := ?_) #[true, true, true, false, true, false, false, false, false, false, false, false, false, false, false, false, false, false] rfl rfl (any_of HT_.out (by kernel_rfl)) (fun _ _ _ h => h) (Or.inl ⟨by rfl, ?_⟩) ?_ ?_
          rotate_left
          · intro w'
            go_simp
            with_reducible rfl
          rotate_left
          · simp only [Act.put, List.setIfInBounds_toArray, List.set_cons_zero, List.set_cons_succ, i64_w, i32_w]
            rfl
          refine pure_ (i := 5) (N := (some 40)) (v := ?_) (a' := ?_) #[true, true, true, false, true, true, false, false, false, false, false, false, false, false, false, false, false, false] rfl rfl (any_of HT_.out (by kernel_rfl)) (fun _ _ _ h => h) (Or.inl ⟨by rfl, ?_⟩) ?_ ?_
          rotate_left
          · intro w'
            go_simp
            with_reducible rfl
          rotate_left
          · simp only [Act.put, List.setIfInBounds_toArray, List.set_cons_zero, List.set_cons_succ, i64_w, i32_w]
            rfl
          refine pure_ (i := 6) (N := (some 41)) (v := ?_) (a' := ?_) #[true, true, true, false, true, true, true, false, false, false, false, false, false, false, false, false, false, false] rfl rfl (any_of HT_.out (by kernel_rfl)) (fun _ _ _ h => h) (Or.inl ⟨by rfl, ?_⟩) ?_ ?_
          rotate_left
          · intro w'
            go_simp
            with_reducible rfl
          rotate_left
          · simp only [Act.put, List.setIfInBounds_toArray, List.set_cons_zero, List.set_cons_succ, i64_w, i32_w]
            rfl
          refine pure_ (i := 7) (N := (some 42)) (v := ?_) (a' := ?_) #[true, true, true, false, true, true, true, true, false, false, false, false, false, false, false, false, false, false] rfl rfl (any_of HT_.out (by kernel_rfl)) (fun _ _ _ h => h) (Or.inl ⟨by rfl, ?_⟩) ?_ ?_
          rotate_left
          · intro w'
            go_simp
            with_reducible rfl
          rotate_left
          · simp only [Act.put, List.setIfInBounds_toArray, List.set_cons_zero, List.set_cons_succ, i64_w, i32_w]
            rfl
          refine pure_ (i := 9) (N := (some 44)) (v := ?_) (a' := ?_) #[true, true, true, false, true, true, true, true, false, true, false, false, false, false, false, false, false, false] rfl rfl (any_of HT_.out (by kernel_rfl)) (fun _ _ _ h => h) (Or.inl ⟨by rfl, ?_⟩) ?_ ?_
          rotate_left
          · intro w'
            go_simp
            with_reducible rfl
          rotate_left
          · simp only [Act.put, List.setIfInBounds_toArray, List.set_cons_zero, List.set_cons_succ, i64_w, i32_w]
            rfl
          refine take_ (i := 3) (N := (some 38)) (v := ?_) (a' := ?_) #[true, true, true, true, true, true, true, true, false, true, false, false, false, false, false, false, false, false] rfl rfl (take_ofW HT_.out HW_.out (by kernel_rfl)) (fun _ _ _ h => h) (Or.inl ⟨by rfl, ?_⟩) hHeld ?_ ?_
          rotate_left
          · rintro w' ⟨s0, s1, s2, s3, s4⟩
            go_simp
            with_reducible rfl
          rotate_left
          · simp only [Act.put, List.setIfInBounds_toArray, List.set_cons_zero, List.set_cons_succ, i64_w, i32_w]
            rfl
          refine take_ (i := 8) (N := (some 43)) (v := ?_) (a' := ?_) #[true, true, true, true, true, true, true, true, true, true, false, false, false, false, false, false, false, false] rfl rfl (take_ofW HT_.out HW_.out (by kernel_rfl)) (fun _ _ _ h => h) (Or.inl ⟨by rfl, ?_⟩) hHeld ?_ ?_
          rotate_left
          · rintro w' ⟨s0, s1, s2, s3, s4⟩
            go_simp
            with_reducible rfl
          rotate_left
          · simp only [Act.put, List.setIfInBounds_toArray, List.set_cons_zero, List.set_cons_succ, i64_w, i32_w]
            rfl
          refine pure_ (i := 10) (N := (some 45)) (v := ?_) (a' := ?_) #[true, true, true, true, true, true, true, true, true, true, true, false, false, false, false, false, false, false] rfl rfl (any_of HT_.out (by kernel_rfl)) (fun _ _ _ h => h) (Or.inl ⟨by rfl, ?_⟩) ?_ ?_
          rotate_left
          · intro w'
            go_simp
            with_reducible rfl
          rotate_left
          · simp only [Act.put, List.setIfInBounds_toArray, List.set_cons_zero, List.set_cons_succ, i64_w, i32_w]
            rfl
          refine take_ (i := 11) (N := (some 46)) (v := ?_) (a' := ?_) #[true, true, true, true, true, true, true, true, true, true, true, true, false, false, false, false, false, false] rfl rfl (take_ofW HT_.out HW_.out (by kernel_rfl)) (fun _ _ _ h => h) (Or.inl ⟨by rfl, ?_⟩) hHeld ?_ ?_
          rotate_left
          · rintro w' ⟨s0, s1, s2, s3, s4⟩
            go_simp
            with_reducible rfl
          rotate_left
          · simp only [Act.put, List.setIfInBounds_toArray, List.set_cons_zero, List.set_cons_succ, i64_w, i32_w]
            rfl
          refine take_ (i := 12) (N := (some 47)) (v := ?_) (a' := ?_) #[true, true, true, true, true, true, true, true, true, true, true, true, true, false, false, false, false, false] rfl rfl (take_ofW HT_.out HW_.out (by kernel_rfl)) (fun _ _ _ h => h) (Or.inl ⟨by rfl, ?_⟩) hHeld ?_ ?_
          rotate_left
          · rintro w' ⟨s0, s1, s2, s3, s4⟩
            go_simp
            with_reducible rfl
          rotate_left
          · simp only [Act.put, List.setIfInBounds_toArray, List.set_cons_zero, List.set_cons_succ, i64_w, i32_w]
            rfl
          refine one_ (i := 13) (N := (some 48)) #[true, true, true, true, true, true, true, true, true, true, true, true, true, true, false, false, false, false] rfl rfl (one_of HT_.out (by kernel_rfl)) (by decide) (fun K hK => ?_)
          refine goes_ Try.func40 (by kernel_rfl) rfl #[.agg #[.slice Af lf.length cf, .bool sp]] (by rfl) rfl rfl (by (try simp only [List.map_toArray, List.map_cons, List.map_nil]); first | done | rfl) ?_
          refine (bags_sent_again.calls Af cf lf sp lf sp _ HFD.out HFL.out.1 HAG.out).mono ?_
          rintro e w5 ⟨v5, rfl, ho5, hb5⟩
          refine ⟨_, rfl, ?_⟩
          have hS5 : (fun w' => w'.cell? ⟨g2, 1, none⟩ = some (.slice (some ⟨B2, 0, none⟩) nn cc2) ∧ w'.cell? ⟨B2, k, none⟩ = some (.slice Ak2 j ck2) ∧ w'.cell? ⟨wr.heap.size, 0, none⟩ = some (.slice Af lf.length cf) ∧ w'.cell? ⟨wr.heap.size, 1, none⟩ = some (.bool sp) ∧ w'.heap[wr.heap.size]? = some (.cells #[.slice Af lf.length cf, .bool sp] 68 (0, 0))) w5 := ⟨(hb5.cell (World.block_lt_of_cell? _ _ hHeld.1)).trans hHeld.1, (hb5.cell (World.block_lt_of_cell? _ _ hHeld.2.1)).trans hHeld.2.1, (hb5.cell (World.block_lt_of_cell? _ _ hHeld.2.2.1)).trans hHeld.2.2.1, (hb5.cell (World.block_lt_of_cell? _ _ hHeld.2.2.2.1)).trans hHeld.2.2.2.1, (hb5.block _ (blk_lt hHeld.2.2.2.2)).trans hHeld.2.2.2.2⟩
          have HB5 := Aside0.mk (HW0.out.trans (hb5.mono HW0.out.size))
          have HO5 := Aside0.mk (Kd.R_reok rfl ho5 (ok := fun b => wr.heap.size ≤ b) (fun b hb => Nat.le_trans HW0.out.size (Kd.R_base ho5 b hb)))
          have HL5 := Aside0.mk (HLW.out.below HB5.out)
          have HR5 := Aside0.mk (Kd.R_below HRW.out HB5.out)
          clear ho5 hb5
          refine hK.out _ _ (hS5) (fun hHeld => ?_)
          clear hK K
          refine norm_ (a' := ?_) ?_ ?_
          rotate_left
          · show Act.put _ (some 48) _ = _
            simp only [Act.put, List.setIfInBounds_toArray, List.set_cons_zero, List.set_cons_succ, i64_w, i32_w]
            rfl
          refine one_ (i := 14) (N := (some 49)) #[true, true, true, true, true, true, true, true, true, true, true, true, true, true, true, false, false, false] rfl rfl (one_of HT_.out (by kernel_rfl)) (by decide) (fun K hK => ?_)
          refine value_ (w1 := ?_) (v := ?_) (by rfl) rfl ?_ ?_
          rotate_left 2
          · go_simp
            constructor
            · rfl
            · rfl
          refine hK.out _ _ (⟨Mem.cell_alloc hHeld.1 _, Mem.cell_alloc hHeld.2.1 _, Mem.cell_alloc hHeld.2.2.1 _, Mem.cell_alloc hHeld.2.2.2.1 _, Mem.alloc_old hHeld.2.2.2.2 _⟩) (fun hHeld => ?_)
          clear hK K
          refine norm_ (a' := ?_) ?_ ?_
          rotate_left
          · show Act.put _ (some 49) _ = _
            simp only [Act.put, List.setIfInBounds_toArray, List.set_cons_zero, List.set_cons_succ, i64_w, i32_w]
            rfl
          refine one_ (i := 15) (N := (some 50)) #[true, true, true, true, true, true, true, true, true, true, true, true, true, true, true, true, false, false] rfl rfl (one_of HT_.out (by kernel_rfl)) (by decide) (fun K hK => ?_)
          refine Kd.R_append_step frameK (w0 := w5) 0 (by rfl) (.tmp 46) (.tmp 49) 69 68 (.agg #[.slice none 0 0, .bool false]) 32 rfl Try.underlying69 info68 rfl (by decide) (by decide) (.slice Ak2 j ck2) (l.take j) (lf, sp) [v5, .bool sp] (fun b => oki2 b ∨ wr.heap.size ≤ b) (fun b => wr.heap.size ≤ b) rfl rfl ?hp ?hokp ?hfr ?hO (Below.refl _ _) (Nat.zero_le _) ?hl ?_
          case hp => exact ⟨[v5], [.bool sp], rfl, ⟨v5, rfl, Kd.R_lower HO5.out (Nat.zero_le _)⟩, rfl⟩
          case hokp => exact fun b hb => ⟨.inr hb, fun e => by have := HRT.out b (by rw [HLN.out]; exact e.symm); omega⟩
          case hfr => exact fun b hb => .inr (Nat.le_trans HB5.out.size hb)
          case hO => have h_ := HR5.out; rw [HLN.out] at h_; exact h_
          case hl => rw [HLN.out]; exact room32 HJT.out.2
          intro v6 w6 ho6 hb6 hg6 hat6
          obtain ⟨A6, c6, rfl⟩ := Kd.R_slice ho6
          have hl6 : (l.take j ++ [(lf, sp)]).length = j + 1 := by rw [List.length_append, HLN.out]; rfl
          rw [hl6] at ho6 ⊢
          have hrow : ∀ b, (Value.slice Ak2 (l.take j).length ck2).ownBlock = some b → oki2 b ∨ wr.heap.size ≤ b := fun b hb => HR5.out.1 b hb
          have hg6' : w5.grownBy w6 (Value.slice Ak2 (l.take j).length ck2).ownBlock := by rw [HLN.out]; exact hg6
          have HC6 := Aside0.mk (CInv.put HJ.out.below HL5.out HB5.out ho6 hg6' hrow)
          have HL6 := HL5.out.grown hg6' hrow
          have nx : ∀ x, wr.heap.size ≤ x → some x ≠ (Value.slice Ak2 j ck2).ownBlock := fun x hx e => by have := HRT.out x (by rw [HLN.out]; exact e.symm); omega
          have hb6x := (hg6.block _ (blk_lt hS5.2.2.2.2) (nx _ (Nat.le_refl _))).trans hS5.2.2.2.2
          have hg6x : w6.cell? ⟨g2, 1, none⟩ = some (.slice (some ⟨B2, 0, none⟩) nn cc2) := by have h_ := Mem.cell_of HL6.net 1; rw [HNN.out] at h_; exact h_
          have cz := HL6.cell
          rw [HLN.out] at cz
          have fz := HL6.free
          have HS6 := Aside0.mk (And.intro hg6x (And.intro cz (And.intro (Mem.cell_of hb6x 0) (And.intro (Mem.cell_of hb6x 1) hb6x))))
          clear nx hb6x hg6x hg6' HL6 hl6
          clear hrow ho6 hb6 hg6 hat6
          refine hK.out _ _ (HS6.out) (fun hHeld => ?_)
          clear hK K
          refine norm_ (a' := ?_) ?_ ?_
          rotate_left
          · show Act.put _ (some 50) _ = _
            simp only [Act.put, List.setIfInBounds_toArray, List.set_cons_zero, List.set_cons_succ, i64_w, i32_w]
            rfl
          refine pure_ (i := 16) (N := (some 51)) (v := ?_) (a' := ?_) #[true, true, true, true, true, true, true, true, true, true, true, true, true, true, true, true, true, false] rfl rfl (any_of HT_.out (by kernel_rfl)) (fun _ _ _ h => h) (Or.inl ⟨by rfl, ?_⟩) ?_ ?_
          rotate_left
          · intro w'
            go_simp
            with_reducible rfl
          rotate_left
          · simp only [Act.put, List.setIfInBounds_toArray, List.set_cons_zero, List.set_cons_succ, i64_w, i32_w]
            rfl
          refine last_ (i := 17) (N := none) #[true, true, true, true, true, true, true, true, true, true, true, true, true, true, true, true, true, true] rfl rfl (one_of HT_.out (by kernel_rfl)) (by decide) (fun K hK => ?_)
          refine skip_ (w1 := w6.setCell ⟨B2, k, none⟩ (.slice A6 (j + 1) c6)) (by rfl) rfl ?_ ?_
          · go_simp
          refine hK.out _ _ ?_
          clear hK K
          refine done_ (done_of HT_.out (by kernel_rfl)) ?_
          go_wp2
          go_roundw
          case rel => exact ⟨j + 1, by rw [hw4]; rfl, HJT.out.1, ⟨by have h_ := HC6.out; rw [HSS.out] at h_; exact h_⟩⟩
          case measure => rw [hw4]; exact Nat.sub_lt_sub_left HJT.out.1 (Nat.lt_succ_self _)
        · have hjj : j = l.length := Nat.le_antisymm hjl (Nat.le_of_not_lt hjt)
          have HJ2 := Aside0.mk HJ.out
          have HJJ := Aside0.mk hjj
          have b4 : (j < l.length) = False := eq_false hjt
          clear HJ hjj hjt hjl
          go_wp2
          go_roundw
          case rel => exact ⟨k + 1, by rw [hw3]; rfl, HLT.out, ⟨by have := HJ2.out; rw [HJJ.out, List.take_length, HK.out.1] at this; exact this⟩⟩
          case measure => rw [hw3]; exact Nat.sub_lt_sub_left HLT.out (Nat.lt_succ_self _)
    · have hmm : k = nn := Nat.le_antisymm hkn (Nat.le_of_not_lt hlt)
      have HI2 := Aside0.mk HI.out
      have HMM := Aside0.mk hmm
      have b3 : (k < nn) = False := eq_false hlt
      clear HI hmm hlt hkn
      go_wp2
      go_ret
      have h2 := HI2.out
      rw [HMM.out, cl_all HM.out.2.1] at h2
      exact ⟨g2, rfl, h2.net, h2.below⟩
end Go.Proofs.Ytchepjbdaojidaa.PBags
