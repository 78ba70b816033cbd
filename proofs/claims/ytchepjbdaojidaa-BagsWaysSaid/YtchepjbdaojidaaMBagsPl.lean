/- A call of any kind is played by the net and by the document alike. -/
import Derived.Test.YtchepjbdaojidaaMBagsHc
import Derived.Test.YtchepjbdaojidaaMBagsHb
namespace Go.Proofs.Ytchepjbdaojidaa.PBags
open Go.RowKit Go.Proofs.YtchepjbdaojidaaW.PrintWords Go.Proofs.YtchepjbdaojidaaW.PrintLast Go.Proofs.YtchepjbdaojidaaW.PrintMore
attribute [local go_sem] max2_int min2_int max_two min_two max_three min_three max_four min_four
set_option linter.unusedVariables false
set_option linter.unusedSimpArgs false

theorem lose_code {n : Nat} {bs : List (List Frame)} {a b x : Int} : (loseF n bs a b x).1 = frameF n bs a b x := by
  unfold loseF
  split
  · rename_i h; rw [h]
  · rfl
theorem Net.lose2 {w : World} {P : Nat → Prop} {g n : Nat} {bs : List (List Frame)} (h : Net w P g n bs) (a b x : Int) :
    Calls Try.prog 17 #[.pointer (some ⟨g, 0, none⟩), .int .i64 a, .int .i64 b, .int .i64 x] w fun e w' => ∃ P', e = .returned (.int .i64 (frameF n bs a b x)) ∧ Net w' P' g n (loseF n bs a b x).2 ∧ Went w P w' P' := by
  have h_ := h.lose a b x
  rw [lose_code] at h_
  exact h_.mono (fun e w' h => ⟨P, h.1, h.2.1, ⟨h.2.2, fun _ hk => .inl hk⟩⟩)
/-- The bags behind a call. -/
def playF (n : Nat) (bs : List (List Frame)) (kd a b x p m : Int) (l : List Int) : List (List Frame) :=
  if kd = 0 then (putF n bs a b (l, false)).2 else if kd = 1 ∨ kd = 2 then (loseF n bs a b x).2 else if kd = 3 then (doubleF n bs a b x).2 else if kd = 4 then (spoilF n bs a b x p m).2 else bs
/-- The three boxes of play: the document's net, the call, the result. -/
structure PB (w W : World) (n : Nat) (A : Option Addr) (len c : Nat) (kd a b x p m : Int) (Ap : Option Addr) (lp cp : Nat) : Prop where
  net : W.heap[w.heap.size]? = some (.cells #[.int .i64 (n : Int), .slice A len c] 41 (0, 0))
  act : W.heap[w.heap.size + 1]? = some (.cells #[.int .i64 kd, .int .i64 a, .int .i64 b, .int .i64 x, .int .i64 p, .int .i64 m, .slice Ap lp cp] 37 (0, 0))
  res : W.heap[w.heap.size + 2]? = some (.cells #[.int .i64 0, .slice none 0 0] 41 (0, 0))
  size : w.heap.size + 3 ≤ W.heap.size
section
variable {w W W1 : World} {n len c lp cp : Nat} {A Ap : Option Addr} {kd a b x p m : Int}
theorem PB.start (w : World) (n : Nat) (A : Option Addr) (len c : Nat) (kd a b x p m : Int) (Ap : Option Addr) (lp cp : Nat) :
    PB w (((w.alloc (.cells #[.int .i64 (n : Int), .slice A len c] 41)).alloc (.cells #[.int .i64 kd, .int .i64 a, .int .i64 b, .int .i64 x, .int .i64 p, .int .i64 m, .slice Ap lp cp] 37)).alloc (.cells #[.int .i64 0, .slice none 0 0] 41)) n A len c kd a b x p m Ap lp cp :=
  ⟨Mem.alloc_old (Mem.alloc_old (Mem.alloc_new _ _) _) _, Mem.alloc_old (Mem.alloc_new_at _ _ _ (by rw [Mem.alloc_size])) _, Mem.alloc_new_at _ _ _ (by rw [Mem.alloc_size, Mem.alloc_size]), by rw [Mem.alloc_size, Mem.alloc_size, Mem.alloc_size]; exact Nat.le_refl _⟩
theorem PB.below (h : PB w W n A len c kd a b x p m Ap lp cp) (hb : Below W.heap.size W W1) : PB w W1 n A len c kd a b x p m Ap lp cp := by
  have hs := h.size
  exact ⟨(hb.block _ (by omega)).trans h.net, (hb.block _ (by omega)).trans h.act, (hb.block _ (by omega)).trans h.res, Nat.le_trans hs hb.size⟩
theorem PB.kept (h : PB w W n A len c kd a b x p m Ap lp cp) {S : Nat → Prop} (hk : Kept W W1 S) (hS : ∀ i, i < 3 → ¬ S (w.heap.size + i)) : PB w W1 n A len c kd a b x p m Ap lp cp := by
  have hs := h.size
  exact ⟨(hk.2 _ (by omega) (hS 0 (by decide))).trans h.net, (hk.2 _ (by omega) (hS 1 (by decide))).trans h.act, (hk.2 _ (by omega) (hS 2 (by decide))).trans h.res, Nat.le_trans hs hk.1⟩
theorem PB.cells (h : PB w W n A len c kd a b x p m Ap lp cp) : W.cell? ⟨w.heap.size, 0, none⟩ = some (.int .i64 (n : Int)) ∧ W.cell? ⟨w.heap.size, 1, none⟩ = some (.slice A len c) ∧
    W.cell? ⟨w.heap.size + 1, 0, none⟩ = some (.int .i64 kd) ∧ W.cell? ⟨w.heap.size + 1, 1, none⟩ = some (.int .i64 a) ∧ W.cell? ⟨w.heap.size + 1, 2, none⟩ = some (.int .i64 b) ∧ W.cell? ⟨w.heap.size + 1, 3, none⟩ = some (.int .i64 x) ∧
    W.cell? ⟨w.heap.size + 1, 4, none⟩ = some (.int .i64 p) ∧ W.cell? ⟨w.heap.size + 1, 5, none⟩ = some (.int .i64 m) ∧ W.cell? ⟨w.heap.size + 1, 6, none⟩ = some (.slice Ap lp cp) ∧
    W.cell? ⟨w.heap.size + 2, 0, none⟩ = some (.int .i64 0) ∧ W.cell? ⟨w.heap.size + 2, 1, none⟩ = some (.slice none 0 0) ∧ W.frozen? ⟨w.heap.size + 2, 0, none⟩ = false ∧ W.frozen? ⟨w.heap.size + 2, 1, none⟩ = false :=
  ⟨Mem.cell_of h.net 0, Mem.cell_of h.net 1, Mem.cell_of h.act 0, Mem.cell_of h.act 1, Mem.cell_of h.act 2, Mem.cell_of h.act 3, Mem.cell_of h.act 4, Mem.cell_of h.act 5, Mem.cell_of h.act 6, Mem.cell_of h.res 0, Mem.cell_of h.res 1, Mem.free_of h.res 0, Mem.free_of h.res 1⟩
theorem PB.ret (h : PB w W n A len c kd a b x p m Ap lp cp) (v0 v1 : Value) : ((W.setCell ⟨w.heap.size + 2, 0, none⟩ v0).setCell ⟨w.heap.size + 2, 1, none⟩ v1).heap[w.heap.size + 2]? = some (.cells #[v0, v1] 41 (0, 0)) := ret41 h.res v0 v1
end
theorem str_of {W : World} {ok : Nat → Prop} {A : Option Addr} {c : Nat} {l : List Int} (h : Kd.V (Kd.int .u8) 5 W 0 ok (.slice A l.length c) l) : Sem.run Try.prog (convert 22 9 (.slice A l.length c)) W = .ok (.string (strOfNums l)) W :=
  Kd.C_string (dst := 9) (c := c) Try.underlying22 Try.underlying5 Try.underlying9 (Kd.V_reads' h).2.2
theorem str_far {W : World} {A : Option Addr} {b c : Nat} {l : List Int} (h : Kd.V (Kd.int .u8) 5 W 0 (fun k => k ≠ b) (.slice A l.length c) l) (u v : Value) :
    Sem.run Try.prog (convert 22 9 (.slice A l.length c)) ((W.setCell ⟨b, 0, none⟩ u).setCell ⟨b, 1, none⟩ v) = .ok (.string (strOfNums l)) ((W.setCell ⟨b, 0, none⟩ u).setCell ⟨b, 1, none⟩ v) :=
  str_of (Kd.V_far (p := ⟨b, 1, none⟩) (Kd.V_far (p := ⟨b, 0, none⟩) h (fun _ hk => hk) u) (fun _ hk => hk) v)
theorem wrap_top {m L : Nat} (h : m < L) (hL : L ≤ 9223372036854775807) : wrap64 ((m : Int) + 1) = (m : Int) + 1 := by unfold wrap64; omega
theorem put_byte {W : World} {base gp len c : Nat} {ok : Nat → Prop} {lst : List Int} (h : (Kd.int .u8).R 5 W base ok (.slice (some ⟨gp, 0, none⟩) len c) lst) (i : Nat) (x : Int) : (Kd.int .u8).R 5 (W.setCell ⟨gp, i, none⟩ (.int .u8 x)) base ok (.slice (some ⟨gp, 0, none⟩) len c) (lst.set i x) := by
  have := Kd.R_putn h (i : Int) x
  rw [Int.toNat_natCast] at this
  exact this
theorem Net.kept {w w' : World} {P S : Nat → Prop} {g n : Nat} {bs : List (List Frame)} (h : Net w P g n bs) (hk : Kept w w' S) (hS : ∀ k, P k → ¬ S k) : Net w' P g n bs := by
  refine ⟨?_, h.small, fun k hp => Nat.lt_of_lt_of_le (h.lt k hp) hk.1⟩
  obtain ⟨A, c, h1, h2, h3, h4, h5, h6, h7⟩ := h.i
  exact ⟨A, c, (hk.2 g (h.lt g h3) (hS g h3)).trans h1, h2, h3, h4, h5, h6, Kd.S_step h7 (fun k hp hl => hk.2 k hl (hS k hp.1))⟩
theorem room1 {l : List Int} (h : l.length ≤ 140737488351232) : (([] : List Int).length + l.length) * 1 ≤ 140737488355328 := by rw [List.length_nil]; omega
/-- The result is laid: the net and the document's net stay. -/
theorem play_end {w W : World} {P P' Q' : Nat → Prop} {g n : Nat} {bs' : List (List Frame)} {ys' : List S45} {v : Value} (hN : Net W P' g n bs') (hT : Tie n bs' ys') (hV : Kd.V k45 45 W 0 Q' v ys') (hQ : ∀ k, Q' k → ¬ P' k) (hQ2 : ∀ k, Q' k → k ≠ w.heap.size + 2) (hP2 : ∀ k, P' k → k ≠ w.heap.size + 2) (hW : Went w P W P') {Q : Nat → Prop} (hQ3 : ∀ k, Q' k → Q k ∨ w.heap.size ≤ k) (v0 v1 : Value) :
    ∃ P' Q', Net ((W.setCell ⟨w.heap.size + 2, 0, none⟩ v0).setCell ⟨w.heap.size + 2, 1, none⟩ v1) P' g n bs' ∧ Tie n bs' ys' ∧ Kd.V k45 45 ((W.setCell ⟨w.heap.size + 2, 0, none⟩ v0).setCell ⟨w.heap.size + 2, 1, none⟩ v1) 0 Q' v ys' ∧ (∀ k, Q' k → ¬ P' k) ∧ (∀ k, Q' k → Q k ∨ w.heap.size ≤ k) ∧ Went w P ((W.setCell ⟨w.heap.size + 2, 0, none⟩ v0).setCell ⟨w.heap.size + 2, 1, none⟩ v1) P' := by
  have e : ∀ k, k ≠ w.heap.size + 2 → ((W.setCell ⟨w.heap.size + 2, 0, none⟩ v0).setCell ⟨w.heap.size + 2, 1, none⟩ v1).heap[k]? = W.heap[k]? := fun k hk => (Mem.set_other _ _ _ _ hk).trans (Mem.set_other _ _ _ _ hk)
  have es : ((W.setCell ⟨w.heap.size + 2, 0, none⟩ v0).setCell ⟨w.heap.size + 2, 1, none⟩ v1).heap.size = W.heap.size := by rw [Mem.set_size, Mem.set_size]
  refine ⟨P', Q', ⟨?_, hN.small, fun k hk => by rw [es]; exact hN.lt k hk⟩, hT, Kd.V_step hV (fun k hk _ => e k (hQ2 k hk)), hQ, hQ3, ⟨Kept.setCell (Kept.setCell hW.kept (.inr (Nat.le_add_right _ 2)) _) (.inr (Nat.le_add_right _ 2)) _, hW.new⟩⟩
  obtain ⟨A, c, h1, h2, h3, h4, h5, h6, h7⟩ := hN.i
  exact ⟨A, c, (e g (hP2 g h3)).trans h1, h2, h3, h4, h5, h6, Kd.S_step h7 (fun k hk _ => e k (hP2 k hk.1))⟩
end Go.Proofs.Ytchepjbdaojidaa.PBags
namespace Go.Proofs.Ytchepjbdaojidaa.PBags
open Go.RowKit Go.Proofs.YtchepjbdaojidaaW.PrintWords Go.Proofs.YtchepjbdaojidaaW.PrintLast Go.Proofs.YtchepjbdaojidaaW.PrintMore
attribute [local go_sem] max2_int min2_int max_two min_two max_three min_three max_four min_four
set_option linter.unusedVariables false
set_option linter.unusedSimpArgs false
def plk1.T14 : Bool × List (List Nat × List Nat) := (true, [([], []), ([], []), ([], []), ([1, 2], [1, 2]), ([3], [3]), ([4], [4]), ([5, 4], [4, 5]), ([4], [4]), ([7, 4], [4, 7]), ([6, 8, 4], [4, 6, 8]), ([4, 9], [4, 9]), ([0, 4, 0], [0]), ([10, 11, 0, 1, 2, 3, 4, 5, 6, 7, 8, 9, 10, 11], [10])])
def plk1.B14 : List Nat := [0, 0, 0, 6, 14, 30, 62, 30, 158, 510, 1022, 31, 4095]
theorem plk1.tab14 : rtab .any (opsOf Try.f18 14) = plk1.T14 := by kernel_rfl
theorem plk1.bits14 : waitsOk plk1.T14.2 plk1.B14 = true := by kernel_rfl
set_option maxHeartbeats 8000000 in
set_option maxRecDepth 100000 in
theorem play_k1 {w : World} {P Q Qp : Nat → Prop} {g n : Nat} {bs : List (List Frame)} {ys : List S45} (hN : Net w P g n bs) (T : Tie n bs ys) (A : Option Addr) (c : Nat) (hV : Kd.V k45 45 w 0 Q (.slice A ys.length c) ys) (hQ : ∀ k, Q k → ¬ P k)
    (a b x p m : Int) (Ap : Option Addr) (cp : Nat) (lp : List Int) (hp : Kd.V (Kd.int .u8) 5 w 0 Qp (.slice Ap lp.length cp) lp) (hQp : ∀ k, Qp k → ¬ P k) (hlp : lp.length ≤ 140737488351232) :
    Calls Try.prog 18 #[.pointer (some ⟨g, 0, none⟩), .agg #[.int .i64 (n : Int), .slice A ys.length c], .agg #[.int .i64 1, .int .i64 a, .int .i64 b, .int .i64 x, .int .i64 p, .int .i64 m, .slice Ap lp.length cp]] w fun e w' =>
      ∃ v ys', e = .returned (.tuple #[.agg #[.int .i64 (n : Int), v], .bool true]) ∧ ∃ P' Q', Net w' P' g n (playF n bs 1 a b x p m lp) ∧ Tie n (playF n bs 1 a b x p m lp) ys' ∧ Kd.V k45 45 w' 0 Q' v ys' ∧ (∀ k, Q' k → ¬ P' k) ∧ (∀ k, Q' k → Q k ∨ w.heap.size ≤ k) ∧ Went w P w' P' := by
  have hl : ys.length ≤ 1048576 := tie_small T hN.small hN.i.size.2.2
  have HT := Aside0.mk T
  have HL := Aside0.mk hl
  have HAP := Aside0.mk (And.intro hQ (And.intro hQp hlp))
  obtain ⟨W0, hW0⟩ : ∃ W0, ((w.alloc (.cells #[.int .i64 (n : Int), .slice A ys.length c] 41)).alloc (.cells #[.int .i64 1, .int .i64 a, .int .i64 b, .int .i64 x, .int .i64 p, .int .i64 m, .slice Ap lp.length cp] 37)).alloc (.cells #[.int .i64 0, .slice none 0 0] 41) = W0 := ⟨_, rfl⟩
  have hB0 : Below w.heap.size w W0 := by rw [← hW0]; exact below_alloc (below_alloc (below_alloc (Below.refl _ _) _) _) _
  have hPB : PB w W0 n A ys.length c 1 a b x p m Ap lp.length cp := by rw [← hW0]; exact PB.start w n A ys.length c 1 a b x p m Ap lp.length cp
  have HB0 := Aside0.mk hB0
  have HP0 := Aside0.mk hPB
  have HN0 := Aside0.mk (hN.below hB0)
  have HPL := Aside0.mk hN.lt
  have HV0 := Aside0.mk (Kd.V_below (Kd.V_bound hV) hB0)
  have HVP := Aside0.mk (Kd.V_below (Kd.V_bound hp) hB0)
  obtain ⟨ys1, hd1, hd2⟩ := deliver_f T hl a b x (2 * ys.length + 2) (Nat.le_refl _)
  rw [peek_frame] at hd1
  have HT1 := Aside0.mk hd2
  have HRC := Aside0.mk (topiaryref08_Deliver.calls (2 * ys.length + 2) (n : Int) _ A c ys a b x (n : Int) ys1 (peekF n bs a b x).1 (frameF n bs a b x) W0 (V_base HV0.out) hd1)
  clear hd1 hd2
  have HPF : Aside0 (playF n bs 1 a b x p m lp = (loseF n bs a b x).2) := ⟨rfl⟩
  clear hN T hV hQ hp hQp hlp hl hB0
  obtain ⟨p0, p1, a0, a1, a2, a3, a4, a5, a6, r0, r1, f0, f1⟩ := hPB.cells
  clear hPB
  go_enter Try.func18, Try.ntmps18
  go_wp2_with (fail)
  clear hW0
  refine HRC.out.mono ?_
  rintro e w1 ⟨v1, v2, rfl, hv1, hv2, hb1⟩
  obtain ⟨A1, c1, rfl⟩ := Kd.V_slice hv1
  obtain ⟨A2, c2, rfl⟩ := Kd.V_slice hv2
  have HV1 := Aside0.mk (Kd.V_bound hv1)
  have HX1 := Aside0.mk (Kd.V_bound hv2)
  have HP1 := Aside0.mk (HP0.out.below hb1)
  have HN1 := Aside0.mk (HN0.out.below hb1)
  have HW1 := Aside0.mk ((Went.below HB0.out P).trans (Went.below hb1 P))
  clear hv1 hv2 hb1 p0 p1 a0 a1 a2 a3 a4 a5 a6 r0 r1 f0 f1 HRC
  have HP2 := Aside0.mk (HP1.out.below (below_alloc (Below.refl w1.heap.size w1) (.cells #[.int .i64 (n : Int), .slice A1 ys1.length c1] 41)))
  have HN2 := Aside0.mk (HN1.out.below (below_alloc (Below.refl w1.heap.size w1) (.cells #[.int .i64 (n : Int), .slice A1 ys1.length c1] 41)))
  have HW2 := Aside0.mk (HW1.out.trans (Went.below (below_alloc (Below.refl w1.heap.size w1) (.cells #[.int .i64 (n : Int), .slice A1 ys1.length c1] 41)) P))
  have HV2 := Aside0.mk (Kd.V_alloc HV1.out (.cells #[.int .i64 (n : Int), .slice A1 ys1.length c1] 41))
  have HX2 := Aside0.mk (Kd.V_alloc HX1.out (.cells #[.int .i64 (n : Int), .slice A1 ys1.length c1] 41))
  have hbz : (w1.alloc (.cells #[.int .i64 (n : Int), .slice A1 ys1.length c1] 41)).heap[w1.heap.size]? = some (.cells #[.int .i64 (n : Int), .slice A1 ys1.length c1] 41 (0, 0)) := Mem.alloc_new _ _
  have HBZ := Aside0.mk hbz
  clear hbz
  obtain ⟨p0, p1, a0, a1, a2, a3, a4, a5, a6, r0, r1, f0, f1⟩ := HP2.out.cells
  have HCL := Aside0.mk (HN2.out.deliver a b x)
  rw [peek_frame] at HCL
  go_wp2_with (fail)
  clear p0 p1 a0 a1 a2 a3 a4 a5 a6 r0 r1 f0 f1
  refine HCL.out.mono ?_
  rintro e w3 ⟨v3, P3, rfl, h3, hw3, hr3⟩
  obtain ⟨A3, c3, rfl⟩ := Kd.R_slice hr3
  have hn2 : ∀ i, i < 3 → ¬ P (w.heap.size + i) := fun i _ hi => by have := HPL.out _ hi; omega
  have hq : ∀ k, (((Q k ∧ k < w.heap.size) ∨ W0.heap.size ≤ k) ∧ k < w1.heap.size) → ¬ P k := fun k hk hp => by have := HPL.out k hp; have := HP0.out.size; rcases hk.1 with h_ | h_; exact HAP.out.1 k h_.1 hp; omega
  have HQ := Aside0.mk hq
  have HP3 := Aside0.mk (HP2.out.kept hw3.kept hn2)
  have HN3 := Aside0.mk h3
  have HW3 := Aside0.mk hw3
  have hbz3 := (hw3.kept.2 w1.heap.size (blk_lt HBZ.out) (fun hi => by have := HPL.out _ hi; have := HP1.out.size; omega)).trans HBZ.out
  have HBZ3 := Aside0.mk hbz3
  have cv1 : Kd.V (Kd.int .u8) 5 w3.drew 0 (fun k => k ≠ w.heap.size + 2) (.slice A3 (peekF n bs a b x).1.length c3) (peekF n bs a b x).1 := Kd.V_mono (Kd.R_V (Kd.R_drew (Kd.R_reok rfl hr3 (ok := fun k => (w1.alloc (.cells #[.int .i64 (n : Int), .slice A1 ys1.length c1] 41)).heap.size ≤ k) (Kd.R_base hr3)))) (fun k hk => by have := HP2.out.size; omega)
  have cv2 : Kd.V (Kd.int .u8) 5 w3.drew 0 (fun k => k ≠ w.heap.size + 2) (.slice A2 (peekF n bs a b x).1.length c2) (peekF n bs a b x).1 := V_base (Kd.V_mono (Kd.V_drew (V_went HX2.out hw3 hq)) (fun k hk => by have := HP0.out.size; rcases hk.1 with h_ | h_ <;> omega))
  have HCV := Aside0.mk (And.intro cv1 cv2)
  clear h3 hw3 hn2 hbz3 hr3 hq cv1 cv2 HCL
  go_wp2_with (fail)
  have cz0 := HP3.out.cells.2.2.2.2.2.2.2.2.2.1
  have cz1 := HP3.out.cells.2.2.2.2.2.2.2.2.2.2.1
  have fz0 := HP3.out.cells.2.2.2.2.2.2.2.2.2.2.2.1
  have fz1 := HP3.out.cells.2.2.2.2.2.2.2.2.2.2.2.2
  have HS : Aside0 (w3.drew.cell? ⟨w1.heap.size, 0, none⟩ = some (.int .i64 (n : Int)) ∧ w3.drew.cell? ⟨w1.heap.size, 1, none⟩ = some (.slice A1 ys1.length c1) ∧ Sem.run Try.prog (convert 22 9 (.slice A3 (peekF n bs a b x).1.length c3)) w3.drew = .ok (.string (strOfNums (peekF n bs a b x).1)) w3.drew ∧ Sem.run Try.prog (convert 22 9 (.slice A2 (peekF n bs a b x).1.length c2)) w3.drew = .ok (.string (strOfNums (peekF n bs a b x).1)) w3.drew) := ⟨Mem.cell_of HBZ3.out 0, Mem.cell_of HBZ3.out 1, str_of HCV.out.1, str_of HCV.out.2⟩
  refine start_ (n := 13) (S := (fun w' => w'.cell? ⟨w1.heap.size, 0, none⟩ = some (.int .i64 (n : Int)) ∧ w'.cell? ⟨w1.heap.size, 1, none⟩ = some (.slice A1 ys1.length c1) ∧ Sem.run Try.prog (convert 22 9 (.slice A3 (peekF n bs a b x).1.length c3)) w' = .ok (.string (strOfNums (peekF n bs a b x).1)) w' ∧ Sem.run Try.prog (convert 22 9 (.slice A2 (peekF n bs a b x).1.length c2)) w' = .ok (.string (strOfNums (peekF n bs a b x).1)) w')) (ds := []) #[false, false, false, false, false, false, false, false, false, false, false, false, false] (by kernel_rfl) rfl rfl (HS.out) (fun hHeld => ?_)
  refine with_tabW plk1.tab14 plk1.bits14 (fun HT_ HW_ => ?_)
  refine pure_ (i := 1) (N := (some 101)) (v := ?_) (a' := ?_) #[false, true, false, false, false, false, false, false, false, false, false, false, false] rfl rfl (any_of HT_.out (by kernel_rfl)) (fun _ _ _ h => h) (Or.inl ⟨by rfl, ?_⟩) ?_ ?_
  rotate_left
  · intro w'
    go_simp
    with_reducible rfl
  rotate_left
  · simp only [Act.put, List.setIfInBounds_toArray, List.set_cons_zero, List.set_cons_succ, i64_w, i32_w]
    rfl
  refine pure_ (i := 2) (N := (some 102)) (v := ?_) (a' := ?_) #[false, true, true, false, false, false, false, false, false, false, false, false, false] rfl rfl (any_of HT_.out (by kernel_rfl)) (fun _ _ _ h => h) (Or.inl ⟨by rfl, ?_⟩) ?_ ?_
  rotate_left
  · intro w'
    go_simp
    with_reducible rfl
  rotate_left
  · simp only [Act.put, List.setIfInBounds_toArray, List.set_cons_zero, List.set_cons_succ, i64_w, i32_w]
    rfl
  refine pure_ (i := 3) (N := (some 103)) (v := ?_) (a' := ?_) #[false, true, true, true, false, false, false, false, false, false, false, false, false] rfl rfl (any_of HT_.out (by kernel_rfl)) (fun _ _ _ h => h) (Or.inl ⟨by rfl, ?_⟩) ?_ ?_
  rotate_left
  · intro w'
    go_simp
    with_reducible rfl
  rotate_left
  · simp only [Act.put, List.setIfInBounds_toArray, List.set_cons_zero, List.set_cons_succ, i64_w, i32_w]
    rfl
  refine pure_ (i := 4) (N := (some 104)) (v := ?_) (a' := ?_) #[false, true, true, true, true, false, false, false, false, false, false, false, false] rfl rfl (any_of HT_.out (by kernel_rfl)) (fun _ _ _ h => h) (Or.inl ⟨by rfl, ?_⟩) ?_ ?_
  rotate_left
  · intro w'
    go_simp
    with_reducible rfl
  rotate_left
  · simp only [Act.put, List.setIfInBounds_toArray, List.set_cons_zero, List.set_cons_succ, i64_w, i32_w]
    rfl
  refine pure_ (i := 5) (N := (some 105)) (v := ?_) (a' := ?_) #[false, true, true, true, true, true, false, false, false, false, false, false, false] rfl rfl (any_of HT_.out (by kernel_rfl)) (fun _ _ _ h => h) (Or.inl ⟨by rfl, ?_⟩) ?_ ?_
  rotate_left
  · intro w'
    go_simp
    with_reducible rfl
  rotate_left
  · simp only [Act.put, List.setIfInBounds_toArray, List.set_cons_zero, List.set_cons_succ, i64_w, i32_w]
    rfl
  refine pure_ (i := 7) (N := (some 107)) (v := ?_) (a' := ?_) #[false, true, true, true, true, true, false, true, false, false, false, false, false] rfl rfl (any_of HT_.out (by kernel_rfl)) (fun _ _ _ h => h) (Or.inl ⟨by rfl, ?_⟩) ?_ ?_
  rotate_left
  · intro w'
    go_simp
    with_reducible rfl
  rotate_left
  · simp only [Act.put, List.setIfInBounds_toArray, List.set_cons_zero, List.set_cons_succ, i64_w, i32_w]
    rfl
  refine take_ (i := 0) (N := (some 100)) (v := ?_) (a' := ?_) #[true, true, true, true, true, true, false, true, false, false, false, false, false] rfl rfl (take_ofW HT_.out HW_.out (by kernel_rfl)) (fun _ _ _ h => h) (Or.inl ⟨by rfl, ?_⟩) hHeld ?_ ?_
  rotate_left
  · rintro w' ⟨s0, s1, s2, s3⟩
    go_simp
    with_reducible rfl
  rotate_left
  · simp only [Act.put, List.setIfInBounds_toArray, List.set_cons_zero, List.set_cons_succ, i64_w, i32_w]
    rfl
  refine take_ (i := 6) (N := (some 106)) (v := ?_) (a' := ?_) #[true, true, true, true, true, true, true, true, false, false, false, false, false] rfl rfl (take_ofW HT_.out HW_.out (by kernel_rfl)) (fun _ _ _ h => h) (Or.inl ⟨by rfl, ?_⟩) hHeld ?_ ?_
  rotate_left
  · rintro w' ⟨s0, s1, s2, s3⟩
    go_simp
    with_reducible rfl
  rotate_left
  · simp only [Act.put, List.setIfInBounds_toArray, List.set_cons_zero, List.set_cons_succ, i64_w, i32_w]
    rfl
  refine take_ (i := 8) (N := (some 108)) (v := ?_) (a' := ?_) #[true, true, true, true, true, true, true, true, true, false, false, false, false] rfl rfl (take_ofW HT_.out HW_.out (by kernel_rfl)) (fun _ _ _ h => h) (Or.inl ⟨by rfl, ?_⟩) hHeld ?_ ?_
  rotate_left
  · rintro w' ⟨s0, s1, s2, s3⟩
    go_simp
    with_reducible rfl
  rotate_left
  · simp only [Act.put, List.setIfInBounds_toArray, List.set_cons_zero, List.set_cons_succ, i64_w, i32_w]
    rfl
  refine pure_ (i := 9) (N := (some 109)) (v := ?_) (a' := ?_) #[true, true, true, true, true, true, true, true, true, true, false, false, false] rfl rfl (any_of HT_.out (by kernel_rfl)) (fun _ _ _ h => h) (Or.inl ⟨by rfl, ?_⟩) ?_ ?_
  rotate_left
  · intro w'
    go_simp
    with_reducible rfl
  rotate_left
  · simp only [Act.put, List.setIfInBounds_toArray, List.set_cons_zero, List.set_cons_succ, i64_w, i32_w]
    rfl
  refine pure_ (i := 10) (N := (some 110)) (v := ?_) (a' := ?_) #[true, true, true, true, true, true, true, true, true, true, true, false, false] rfl rfl (any_of HT_.out (by kernel_rfl)) (fun _ _ _ h => h) (Or.inl ⟨by rfl, ?_⟩) ?_ ?_
  rotate_left
  · intro w'
    go_simp
    with_reducible rfl
  rotate_left
  · simp only [Act.put, List.setIfInBounds_toArray, List.set_cons_zero, List.set_cons_succ, i64_w, i32_w]
    rfl
  refine one_ (i := 11) (N := none) #[true, true, true, true, true, true, true, true, true, true, true, true, false] rfl rfl (one_of HT_.out (by kernel_rfl)) (by decide) (fun K hK => ?_)
  refine skip_ (w1 := (w3.drew.setCell ⟨w.heap.size + 2, 0, none⟩ (.int .i64 (n : Int))).setCell ⟨w.heap.size + 2, 1, none⟩ (.slice A1 ys1.length c1)) (by rfl) rfl ?_ ?_
  · go_simp
  have hbzn : w1.heap.size ≠ w.heap.size + 2 := fun e => by have := HP1.out.size; omega
  have hzz := (Mem.set_other (w3.drew.setCell ⟨w.heap.size + 2, 0, none⟩ (.int .i64 (n : Int))) ⟨w.heap.size + 2, 1, none⟩ (.slice A1 ys1.length c1) _ hbzn).trans ((Mem.set_other w3.drew ⟨w.heap.size + 2, 0, none⟩ (.int .i64 (n : Int)) _ hbzn).trans HBZ3.out)
  refine hK.out _ _ (⟨Mem.cell_of hzz 0, Mem.cell_of hzz 1, str_far HCV.out.1 _ _, str_far HCV.out.2 _ _⟩) (fun hHeld => ?_)
  clear hK K
  refine pure_ (i := 12) (N := (some 7)) (v := ?_) (a' := ?_) #[true, true, true, true, true, true, true, true, true, true, true, true, true] rfl rfl (any_of HT_.out (by kernel_rfl)) (fun _ _ _ h => h) (Or.inl ⟨by rfl, ?_⟩) ?_ ?_
  rotate_left
  · intro w'
    go_simp
    with_reducible rfl
  rotate_left
  · simp only [Act.put, List.setIfInBounds_toArray, List.set_cons_zero, List.set_cons_succ, i64_w, i32_w]
    rfl
  refine done_ (done_of HT_.out (by kernel_rfl)) ?_
  go_wp2
  refine bodyPost_ret (results_ct rfl _ _ (w.heap.size + 2) 41 #[.int .i64 (n : Int), .slice A1 ys1.length c1] (0, 0) _ rfl ((HP3.out.below (below_drew (Below.refl _ _))).ret _ _) Try.underlying41 rfl (by kernel_rfl)) rfl ?_
  refine ⟨.slice A1 ys1.length c1, ys1, rfl, ?_⟩
  rw [HPF.out]
  refine play_end (HN3.out.below (below_drew (Below.refl _ _))) HT1.out (V_base (Kd.V_drew (V_went HV2.out HW3.out HQ.out))) (HW3.out.apart HQ.out (fun k hk => Nat.lt_of_lt_of_le hk.2 (Nat.le_of_lt (blk_lt HBZ.out)))) (fun k hk => ?_) (fun k hk => ?_) ((HW2.out.trans HW3.out).trans (Went.below (below_drew (Below.refl _ _)) P3)) (fun k hk => hk.1.elim (fun h_ => .inl h_.1) (fun h_ => .inr (by have := HP0.out.size; omega))) _ _
  · have := HP0.out.size; rcases hk.1 with h_ | h_ <;> omega
  · have := HP2.out.size; rcases HW3.out.new k hk with h_ | h_; have := HPL.out k h_; omega; omega
end Go.Proofs.Ytchepjbdaojidaa.PBags
namespace Go.Proofs.Ytchepjbdaojidaa.PBags
open Go.RowKit Go.Proofs.YtchepjbdaojidaaW.PrintWords Go.Proofs.YtchepjbdaojidaaW.PrintLast Go.Proofs.YtchepjbdaojidaaW.PrintMore
attribute [local go_sem] max2_int min2_int max_two min_two max_three min_three max_four min_four
set_option linter.unusedVariables false
set_option linter.unusedSimpArgs false
def plk2.T17 : Bool × List (List Nat × List Nat) := (true, [([], []), ([], []), ([], []), ([2], [2]), ([], []), ([4], [4]), ([], []), ([6], [6]), ([1, 3, 5, 7], [1, 3, 5, 7]), ([], []), ([8, 9], [8, 9]), ([0, 8, 0], [0]), ([10, 11, 0, 1, 2, 3, 4, 5, 6, 7, 8, 9, 10, 11], [10])])
def plk2.B17 : List Nat := [0, 0, 0, 4, 0, 16, 0, 64, 254, 0, 1022, 511, 4095]
theorem plk2.tab17 : rtab .any (opsOf Try.f18 17) = plk2.T17 := by kernel_rfl
theorem plk2.bits17 : waitsOk plk2.T17.2 plk2.B17 = true := by kernel_rfl
set_option maxHeartbeats 8000000 in
set_option maxRecDepth 100000 in
theorem play_k2 {w : World} {P Q Qp : Nat → Prop} {g n : Nat} {bs : List (List Frame)} {ys : List S45} (hN : Net w P g n bs) (T : Tie n bs ys) (A : Option Addr) (c : Nat) (hV : Kd.V k45 45 w 0 Q (.slice A ys.length c) ys) (hQ : ∀ k, Q k → ¬ P k)
    (a b x p m : Int) (Ap : Option Addr) (cp : Nat) (lp : List Int) (hp : Kd.V (Kd.int .u8) 5 w 0 Qp (.slice Ap lp.length cp) lp) (hQp : ∀ k, Qp k → ¬ P k) (hlp : lp.length ≤ 140737488351232) :
    Calls Try.prog 18 #[.pointer (some ⟨g, 0, none⟩), .agg #[.int .i64 (n : Int), .slice A ys.length c], .agg #[.int .i64 2, .int .i64 a, .int .i64 b, .int .i64 x, .int .i64 p, .int .i64 m, .slice Ap lp.length cp]] w fun e w' =>
      ∃ v ys', e = .returned (.tuple #[.agg #[.int .i64 (n : Int), v], .bool true]) ∧ ∃ P' Q', Net w' P' g n (playF n bs 2 a b x p m lp) ∧ Tie n (playF n bs 2 a b x p m lp) ys' ∧ Kd.V k45 45 w' 0 Q' v ys' ∧ (∀ k, Q' k → ¬ P' k) ∧ (∀ k, Q' k → Q k ∨ w.heap.size ≤ k) ∧ Went w P w' P' := by
  have hl : ys.length ≤ 1048576 := tie_small T hN.small hN.i.size.2.2
  have HT := Aside0.mk T
  have HL := Aside0.mk hl
  have HAP := Aside0.mk (And.intro hQ (And.intro hQp hlp))
  obtain ⟨W0, hW0⟩ : ∃ W0, ((w.alloc (.cells #[.int .i64 (n : Int), .slice A ys.length c] 41)).alloc (.cells #[.int .i64 2, .int .i64 a, .int .i64 b, .int .i64 x, .int .i64 p, .int .i64 m, .slice Ap lp.length cp] 37)).alloc (.cells #[.int .i64 0, .slice none 0 0] 41) = W0 := ⟨_, rfl⟩
  have hB0 : Below w.heap.size w W0 := by rw [← hW0]; exact below_alloc (below_alloc (below_alloc (Below.refl _ _) _) _) _
  have hPB : PB w W0 n A ys.length c 2 a b x p m Ap lp.length cp := by rw [← hW0]; exact PB.start w n A ys.length c 2 a b x p m Ap lp.length cp
  have HB0 := Aside0.mk hB0
  have HP0 := Aside0.mk hPB
  have HN0 := Aside0.mk (hN.below hB0)
  have HPL := Aside0.mk hN.lt
  have HV0 := Aside0.mk (Kd.V_below (Kd.V_bound hV) hB0)
  have HVP := Aside0.mk (Kd.V_below (Kd.V_bound hp) hB0)
  obtain ⟨ys1, hd1, hd2⟩ := deliver_f T hl a b x (2 * ys.length + 2) (Nat.le_refl _)
  rw [peek_frame] at hd1
  have HT1 := Aside0.mk hd2
  have HRC := Aside0.mk (((topiaryref08_Deliver.calls (2 * ys.length + 2) (n : Int) _ A c ys a b x (n : Int) ys1 (peekF n bs a b x).1 (frameF n bs a b x) W0 (V_base HV0.out) hd1).mono (R' := fun e w' => ∃ v1, (∃ v2, e = .returned (.tuple #[.agg #[.int .i64 (n : Int), v1], v2, .int .i64 (frameF n bs a b x)])) ∧ Kd.V k45 45 w' W0.heap.size (fun k => (Q k ∧ k < w.heap.size) ∨ W0.heap.size ≤ k) v1 ys1 ∧ Below W0.heap.size W0 w') (fun e w' h => by obtain ⟨v1, v2, h1, h2, _, h4⟩ := h; exact ⟨v1, ⟨v2, h1⟩, h2, h4⟩)))
  clear hd1 hd2
  have HPF : Aside0 (playF n bs 2 a b x p m lp = (loseF n bs a b x).2) := ⟨rfl⟩
  clear hN T hV hQ hp hQp hlp hl hB0
  obtain ⟨p0, p1, a0, a1, a2, a3, a4, a5, a6, r0, r1, f0, f1⟩ := hPB.cells
  clear hPB
  go_enter Try.func18, Try.ntmps18
  go_wp2_with (fail)
  clear hW0
  refine HRC.out.mono ?_
  rintro e w1 ⟨v1, ⟨v2, rfl⟩, hv1, hb1⟩
  obtain ⟨A1, c1, rfl⟩ := Kd.V_slice hv1
  have HV1 := Aside0.mk (Kd.V_bound hv1)
  have HP1 := Aside0.mk (HP0.out.below hb1)
  have HN1 := Aside0.mk (HN0.out.below hb1)
  have HW1 := Aside0.mk ((Went.below HB0.out P).trans (Went.below hb1 P))
  have HSZ := Aside0.mk hb1.size
  clear hv1 hb1 p0 p1 a0 a1 a2 a3 a4 a5 a6 r0 r1 f0 f1 HRC
  have HP2 := Aside0.mk (HP1.out.below (below_drew1 (below_alloc (Below.refl w1.heap.size w1) (.cells #[.int .i64 (n : Int), .slice A1 ys1.length c1] 41))))
  have HN2 := Aside0.mk (HN1.out.below (below_drew1 (below_alloc (Below.refl w1.heap.size w1) (.cells #[.int .i64 (n : Int), .slice A1 ys1.length c1] 41))))
  have HW2 := Aside0.mk (HW1.out.trans (Went.below (below_drew1 (below_alloc (Below.refl w1.heap.size w1) (.cells #[.int .i64 (n : Int), .slice A1 ys1.length c1] 41))) P))
  have HV2 := Aside0.mk (Kd.V_drew (Kd.V_alloc HV1.out (.cells #[.int .i64 (n : Int), .slice A1 ys1.length c1] 41)))
  have hbz : (w1.alloc (.cells #[.int .i64 (n : Int), .slice A1 ys1.length c1] 41)).drew.heap[w1.heap.size]? = some (.cells #[.int .i64 (n : Int), .slice A1 ys1.length c1] 41 (0, 0)) := Mem.alloc_new _ _
  have HBZ := Aside0.mk hbz
  clear hbz
  go_wp2_with (fail)
  have HS : Aside0 ((w1.alloc (.cells #[.int .i64 (n : Int), .slice A1 ys1.length c1] 41)).drew.cell? ⟨w1.heap.size, 0, none⟩ = some (.int .i64 (n : Int)) ∧ (w1.alloc (.cells #[.int .i64 (n : Int), .slice A1 ys1.length c1] 41)).drew.cell? ⟨w1.heap.size, 1, none⟩ = some (.slice A1 ys1.length c1) ∧ (w1.alloc (.cells #[.int .i64 (n : Int), .slice A1 ys1.length c1] 41)).drew.cell? ⟨w.heap.size + 1, 1, none⟩ = some (.int .i64 a) ∧ (w1.alloc (.cells #[.int .i64 (n : Int), .slice A1 ys1.length c1] 41)).drew.cell? ⟨w.heap.size + 1, 2, none⟩ = some (.int .i64 b) ∧ (w1.alloc (.cells #[.int .i64 (n : Int), .slice A1 ys1.length c1] 41)).drew.cell? ⟨w.heap.size + 1, 3, none⟩ = some (.int .i64 x)) := ⟨Mem.cell_of HBZ.out 0, Mem.cell_of HBZ.out 1, HP2.out.cells.2.2.2.1, HP2.out.cells.2.2.2.2.1, HP2.out.cells.2.2.2.2.2.1⟩
  refine start_ (n := 13) (S := (fun w' => w'.cell? ⟨w1.heap.size, 0, none⟩ = some (.int .i64 (n : Int)) ∧ w'.cell? ⟨w1.heap.size, 1, none⟩ = some (.slice A1 ys1.length c1) ∧ w'.cell? ⟨w.heap.size + 1, 1, none⟩ = some (.int .i64 a) ∧ w'.cell? ⟨w.heap.size + 1, 2, none⟩ = some (.int .i64 b) ∧ w'.cell? ⟨w.heap.size + 1, 3, none⟩ = some (.int .i64 x))) (ds := [11]) #[false, false, false, false, false, false, false, false, false, false, false, false, false] (by kernel_rfl) rfl rfl (HS.out) (fun hHeld => ?_)
  refine with_tabW plk2.tab17 plk2.bits17 (fun HT_ HW_ => ?_)
  refine pure_ (i := 1) (N := (some 126)) (v := ?_) (a' := ?_) #[false, true, false, false, false, false, false, false, false, false, false, false, false] rfl rfl (any_of HT_.out (by kernel_rfl)) (fun _ _ _ h => h) (Or.inl ⟨by rfl, ?_⟩) ?_ ?_
  rotate_left
  · intro w'
    go_simp
    with_reducible rfl
  rotate_left
  · simp only [Act.put, List.setIfInBounds_toArray, List.set_cons_zero, List.set_cons_succ, i64_w, i32_w]
    rfl
  refine pure_ (i := 2) (N := (some 127)) (v := ?_) (a' := ?_) #[false, true, true, false, false, false, false, false, false, false, false, false, false] rfl rfl (any_of HT_.out (by kernel_rfl)) (fun _ _ _ h => h) (Or.inl ⟨by rfl, ?_⟩) ?_ ?_
  rotate_left
  · intro w'
    go_simp
    with_reducible rfl
  rotate_left
  · simp only [Act.put, List.setIfInBounds_toArray, List.set_cons_zero, List.set_cons_succ, i64_w, i32_w]
    rfl
  refine pure_ (i := 4) (N := (some 129)) (v := ?_) (a' := ?_) #[false, true, true, false, true, false, false, false, false, false, false, false, false] rfl rfl (any_of HT_.out (by kernel_rfl)) (fun _ _ _ h => h) (Or.inl ⟨by rfl, ?_⟩) ?_ ?_
  rotate_left
  · intro w'
    go_simp
    with_reducible rfl
  rotate_left
  · simp only [Act.put, List.setIfInBounds_toArray, List.set_cons_zero, List.set_cons_succ, i64_w, i32_w]
    rfl
  refine pure_ (i := 6) (N := (some 131)) (v := ?_) (a' := ?_) #[false, true, true, false, true, false, true, false, false, false, false, false, false] rfl rfl (any_of HT_.out (by kernel_rfl)) (fun _ _ _ h => h) (Or.inl ⟨by rfl, ?_⟩) ?_ ?_
  rotate_left
  · intro w'
    go_simp
    with_reducible rfl
  rotate_left
  · simp only [Act.put, List.setIfInBounds_toArray, List.set_cons_zero, List.set_cons_succ, i64_w, i32_w]
    rfl
  refine pure_ (i := 9) (N := (some 134)) (v := ?_) (a' := ?_) #[false, true, true, false, true, false, true, false, false, true, false, false, false] rfl rfl (any_of HT_.out (by kernel_rfl)) (fun _ _ _ h => h) (Or.inl ⟨by rfl, ?_⟩) ?_ ?_
  rotate_left
  · intro w'
    go_simp
    with_reducible rfl
  rotate_left
  · simp only [Act.put, List.setIfInBounds_toArray, List.set_cons_zero, List.set_cons_succ, i64_w, i32_w]
    rfl
  refine take_ (i := 0) (N := (some 125)) (v := ?_) (a' := ?_) #[true, true, true, false, true, false, true, false, false, true, false, false, false] rfl rfl (take_ofW HT_.out HW_.out (by kernel_rfl)) (fun _ _ _ h => h) (Or.inl ⟨by rfl, ?_⟩) hHeld ?_ ?_
  rotate_left
  · rintro w' ⟨s0, s1, s2, s3, s4⟩
    go_simp
    with_reducible rfl
  rotate_left
  · simp only [Act.put, List.setIfInBounds_toArray, List.set_cons_zero, List.set_cons_succ, i64_w, i32_w]
    rfl
  refine take_ (i := 3) (N := (some 128)) (v := ?_) (a' := ?_) #[true, true, true, true, true, false, true, false, false, true, false, false, false] rfl rfl (take_ofW HT_.out HW_.out (by kernel_rfl)) (fun _ _ _ h => h) (Or.inl ⟨by rfl, ?_⟩) hHeld ?_ ?_
  rotate_left
  · rintro w' ⟨s0, s1, s2, s3, s4⟩
    go_simp
    with_reducible rfl
  rotate_left
  · simp only [Act.put, List.setIfInBounds_toArray, List.set_cons_zero, List.set_cons_succ, i64_w, i32_w]
    rfl
  refine take_ (i := 5) (N := (some 130)) (v := ?_) (a' := ?_) #[true, true, true, true, true, true, true, false, false, true, false, false, false] rfl rfl (take_ofW HT_.out HW_.out (by kernel_rfl)) (fun _ _ _ h => h) (Or.inl ⟨by rfl, ?_⟩) hHeld ?_ ?_
  rotate_left
  · rintro w' ⟨s0, s1, s2, s3, s4⟩
    go_simp
    with_reducible rfl
  rotate_left
  · simp only [Act.put, List.setIfInBounds_toArray, List.set_cons_zero, List.set_cons_succ, i64_w, i32_w]
    rfl
  refine take_ (i := 7) (N := (some 132)) (v := ?_) (a' := ?_) #[true, true, true, true, true, true, true, true, false, true, false, false, false] rfl rfl (take_ofW HT_.out HW_.out (by kernel_rfl)) (fun _ _ _ h => h) (Or.inl ⟨by rfl, ?_⟩) hHeld ?_ ?_
  rotate_left
  · rintro w' ⟨s0, s1, s2, s3, s4⟩
    go_simp
    with_reducible rfl
  rotate_left
  · simp only [Act.put, List.setIfInBounds_toArray, List.set_cons_zero, List.set_cons_succ, i64_w, i32_w]
    rfl
  refine one_ (i := 8) (N := (some 133)) #[true, true, true, true, true, true, true, true, true, true, false, false, false] rfl rfl (one_of HT_.out (by kernel_rfl)) (by decide) (fun K hK => ?_)
  refine goes_ Try.func17 (by kernel_rfl) rfl #[.pointer (some ⟨g, 0, none⟩), .int .i64 a, .int .i64 b, .int .i64 x] (by rfl) rfl rfl (by (try simp only [List.map_toArray, List.map_cons, List.map_nil]); first | done | rfl) ?_
  refine (HN2.out.lose2 a b x).mono ?_
  rintro e w3 ⟨P3, rfl, h3, hw3⟩
  refine ⟨_, rfl, ?_⟩
  have hn2 : ∀ i, i < 3 → ¬ P (w.heap.size + i) := fun i _ hi => by have := HPL.out _ hi; omega
  have HP3 := Aside0.mk (HP2.out.kept hw3.kept hn2)
  have HN3 := Aside0.mk h3
  have HW3 := Aside0.mk hw3
  have hbz3 := (hw3.kept.2 w1.heap.size (blk_lt HBZ.out) (fun hi => by have := HPL.out _ hi; have := HP1.out.size; omega)).trans HBZ.out
  have HBZ3 := Aside0.mk hbz3
  clear h3 hw3 hn2 hbz3
  have cz0 := HP3.out.cells.2.2.2.2.2.2.2.2.2.1
  have cz1 := HP3.out.cells.2.2.2.2.2.2.2.2.2.2.1
  have fz0 := HP3.out.cells.2.2.2.2.2.2.2.2.2.2.2.1
  have fz1 := HP3.out.cells.2.2.2.2.2.2.2.2.2.2.2.2
  refine hK.out _ _ (⟨Mem.cell_of HBZ3.out 0, Mem.cell_of HBZ3.out 1, HP3.out.cells.2.2.2.1, HP3.out.cells.2.2.2.2.1, HP3.out.cells.2.2.2.2.2.1⟩) (fun hHeld => ?_)
  clear hK K
  refine norm_ (a' := ?_) ?_ ?_
  rotate_left
  · show Act.put _ (some 133) _ = _
    simp only [Act.put, List.setIfInBounds_toArray, List.set_cons_zero, List.set_cons_succ, i64_w, i32_w]
    rfl
  refine pure_ (i := 10) (N := (some 135)) (v := ?_) (a' := ?_) #[true, true, true, true, true, true, true, true, true, true, true, false, false] rfl rfl (any_of HT_.out (by kernel_rfl)) (fun _ _ _ h => h) (Or.inl ⟨by rfl, ?_⟩) ?_ ?_
  rotate_left
  · intro w'
    go_simp
    with_reducible rfl
  rotate_left
  · simp only [Act.put, List.setIfInBounds_toArray, List.set_cons_zero, List.set_cons_succ, i64_w, i32_w]
    rfl
  refine last_ (i := 11) (N := none) #[true, true, true, true, true, true, true, true, true, true, true, true, false] rfl rfl (one_of HT_.out (by kernel_rfl)) (by decide) (fun K hK => ?_)
  refine skip_ (w1 := (w3.setCell ⟨w.heap.size + 2, 0, none⟩ (.int .i64 (n : Int))).setCell ⟨w.heap.size + 2, 1, none⟩ (.slice A1 ys1.length c1)) (by rfl) rfl ?_ ?_
  · go_simp
  refine hK.out _ _ ?_
  clear hK K
  refine pure_ (i := 12) (N := (some 7)) (v := ?_) (a' := ?_) #[true, true, true, true, true, true, true, true, true, true, true, true, true] rfl rfl (any_of HT_.out (by kernel_rfl)) (fun _ _ _ h => h) (Or.inl ⟨by rfl, ?_⟩) ?_ ?_
  rotate_left
  · intro w'
    go_simp
    with_reducible rfl
  rotate_left
  · simp only [Act.put, List.setIfInBounds_toArray, List.set_cons_zero, List.set_cons_succ, i64_w, i32_w]
    rfl
  refine done_ (done_of HT_.out (by kernel_rfl)) ?_
  go_wp2
  refine bodyPost_ret (results_ct rfl _ _ (w.heap.size + 2) 41 #[.int .i64 (n : Int), .slice A1 ys1.length c1] (0, 0) _ rfl (HP3.out.ret _ _) Try.underlying41 rfl (by kernel_rfl)) rfl ?_
  refine ⟨.slice A1 ys1.length c1, ys1, rfl, ?_⟩
  rw [HPF.out]
  have hq : ∀ k, (((Q k ∧ k < w.heap.size) ∨ W0.heap.size ≤ k) ∧ k < w1.heap.size) → ¬ P k := fun k hk hp => by have := HPL.out k hp; have := HP0.out.size; rcases hk.1 with h_ | h_; exact HAP.out.1 k h_.1 hp; omega
  refine play_end HN3.out HT1.out (V_base (V_went HV2.out HW3.out hq)) (HW3.out.apart hq (fun k hk => Nat.lt_of_lt_of_le hk.2 (Nat.le_of_lt (blk_lt HBZ.out)))) (fun k hk => ?_) (fun k hk => ?_) (HW2.out.trans HW3.out) (fun k hk => hk.1.elim (fun h_ => .inl h_.1) (fun h_ => .inr (by have := HP0.out.size; omega))) _ _
  · have := HP0.out.size; rcases hk.1 with h_ | h_ <;> omega
  · have := HP2.out.size; rcases HW3.out.new k hk with h_ | h_; have := HPL.out k h_; omega; omega
end Go.Proofs.Ytchepjbdaojidaa.PBags
namespace Go.Proofs.Ytchepjbdaojidaa.PBags
open Go.RowKit Go.Proofs.YtchepjbdaojidaaW.PrintWords Go.Proofs.YtchepjbdaojidaaW.PrintLast Go.Proofs.YtchepjbdaojidaaW.PrintMore
attribute [local go_sem] max2_int min2_int max_two min_two max_three min_three max_four min_four
set_option linter.unusedVariables false
set_option linter.unusedSimpArgs false
def plk3.T20 : Bool × List (List Nat × List Nat) := (true, [([], []), ([], []), ([], []), ([2], [2]), ([], []), ([4], [4]), ([], []), ([6], [6]), ([1, 3, 5, 7], [1, 3, 5, 7]), ([], []), ([8, 9], [8, 9]), ([0, 8, 0], [0]), ([10, 11, 0, 1, 2, 3, 4, 5, 6, 7, 8, 9, 10, 11], [10])])
def plk3.B20 : List Nat := [0, 0, 0, 4, 0, 16, 0, 64, 254, 0, 1022, 511, 4095]
theorem plk3.tab20 : rtab .any (opsOf Try.f18 20) = plk3.T20 := by kernel_rfl
theorem plk3.bits20 : waitsOk plk3.T20.2 plk3.B20 = true := by kernel_rfl
set_option maxHeartbeats 8000000 in
set_option maxRecDepth 100000 in
theorem play_k3 {w : World} {P Q Qp : Nat → Prop} {g n : Nat} {bs : List (List Frame)} {ys : List S45} (hN : Net w P g n bs) (T : Tie n bs ys) (A : Option Addr) (c : Nat) (hV : Kd.V k45 45 w 0 Q (.slice A ys.length c) ys) (hQ : ∀ k, Q k → ¬ P k)
    (a b x p m : Int) (Ap : Option Addr) (cp : Nat) (lp : List Int) (hp : Kd.V (Kd.int .u8) 5 w 0 Qp (.slice Ap lp.length cp) lp) (hQp : ∀ k, Qp k → ¬ P k) (hlp : lp.length ≤ 140737488351232) :
    Calls Try.prog 18 #[.pointer (some ⟨g, 0, none⟩), .agg #[.int .i64 (n : Int), .slice A ys.length c], .agg #[.int .i64 3, .int .i64 a, .int .i64 b, .int .i64 x, .int .i64 p, .int .i64 m, .slice Ap lp.length cp]] w fun e w' =>
      ∃ v ys', e = .returned (.tuple #[.agg #[.int .i64 (n : Int), v], .bool true]) ∧ ∃ P' Q', Net w' P' g n (playF n bs 3 a b x p m lp) ∧ Tie n (playF n bs 3 a b x p m lp) ys' ∧ Kd.V k45 45 w' 0 Q' v ys' ∧ (∀ k, Q' k → ¬ P' k) ∧ (∀ k, Q' k → Q k ∨ w.heap.size ≤ k) ∧ Went w P w' P' := by
  have hl : ys.length ≤ 1048576 := tie_small T hN.small hN.i.size.2.2
  have HT := Aside0.mk T
  have HL := Aside0.mk hl
  have HAP := Aside0.mk (And.intro hQ (And.intro hQp hlp))
  obtain ⟨W0, hW0⟩ : ∃ W0, ((w.alloc (.cells #[.int .i64 (n : Int), .slice A ys.length c] 41)).alloc (.cells #[.int .i64 3, .int .i64 a, .int .i64 b, .int .i64 x, .int .i64 p, .int .i64 m, .slice Ap lp.length cp] 37)).alloc (.cells #[.int .i64 0, .slice none 0 0] 41) = W0 := ⟨_, rfl⟩
  have hB0 : Below w.heap.size w W0 := by rw [← hW0]; exact below_alloc (below_alloc (below_alloc (Below.refl _ _) _) _) _
  have hPB : PB w W0 n A ys.length c 3 a b x p m Ap lp.length cp := by rw [← hW0]; exact PB.start w n A ys.length c 3 a b x p m Ap lp.length cp
  have HB0 := Aside0.mk hB0
  have HP0 := Aside0.mk hPB
  have HN0 := Aside0.mk (hN.below hB0)
  have HPL := Aside0.mk hN.lt
  have HV0 := Aside0.mk (Kd.V_below (Kd.V_bound hV) hB0)
  have HVP := Aside0.mk (Kd.V_below (Kd.V_bound hp) hB0)
  have HRC := Aside0.mk (rdouble_calls T hN.small hl a b x _ A c W0 (V_base HV0.out))
  have HPF : Aside0 (playF n bs 3 a b x p m lp = (doubleF n bs a b x).2) := ⟨rfl⟩
  clear hN T hV hQ hp hQp hlp hl hB0
  obtain ⟨p0, p1, a0, a1, a2, a3, a4, a5, a6, r0, r1, f0, f1⟩ := hPB.cells
  clear hPB
  go_enter Try.func18, Try.ntmps18
  go_wp2_with (fail)
  clear hW0
  refine HRC.out.mono ?_
  rintro e w1 ⟨v1, ys1, rfl, hv1, ht1, hb1⟩
  have HT1 := Aside0.mk ht1
  clear ht1
  obtain ⟨A1, c1, rfl⟩ := Kd.V_slice hv1
  have HV1 := Aside0.mk (Kd.V_bound hv1)
  have HP1 := Aside0.mk (HP0.out.below hb1)
  have HN1 := Aside0.mk (HN0.out.below hb1)
  have HW1 := Aside0.mk ((Went.below HB0.out P).trans (Went.below hb1 P))
  have HSZ := Aside0.mk hb1.size
  clear hv1 hb1 p0 p1 a0 a1 a2 a3 a4 a5 a6 r0 r1 f0 f1 HRC
  have HP2 := Aside0.mk (HP1.out.below (below_drew1 (below_alloc (Below.refl w1.heap.size w1) (.cells #[.int .i64 (n : Int), .slice A1 ys1.length c1] 41))))
  have HN2 := Aside0.mk (HN1.out.below (below_drew1 (below_alloc (Below.refl w1.heap.size w1) (.cells #[.int .i64 (n : Int), .slice A1 ys1.length c1] 41))))
  have HW2 := Aside0.mk (HW1.out.trans (Went.below (below_drew1 (below_alloc (Below.refl w1.heap.size w1) (.cells #[.int .i64 (n : Int), .slice A1 ys1.length c1] 41))) P))
  have HV2 := Aside0.mk (Kd.V_drew (Kd.V_alloc HV1.out (.cells #[.int .i64 (n : Int), .slice A1 ys1.length c1] 41)))
  have hbz : (w1.alloc (.cells #[.int .i64 (n : Int), .slice A1 ys1.length c1] 41)).drew.heap[w1.heap.size]? = some (.cells #[.int .i64 (n : Int), .slice A1 ys1.length c1] 41 (0, 0)) := Mem.alloc_new _ _
  have HBZ := Aside0.mk hbz
  clear hbz
  go_wp2_with (fail)
  have HS : Aside0 ((w1.alloc (.cells #[.int .i64 (n : Int), .slice A1 ys1.length c1] 41)).drew.cell? ⟨w1.heap.size, 0, none⟩ = some (.int .i64 (n : Int)) ∧ (w1.alloc (.cells #[.int .i64 (n : Int), .slice A1 ys1.length c1] 41)).drew.cell? ⟨w1.heap.size, 1, none⟩ = some (.slice A1 ys1.length c1) ∧ (w1.alloc (.cells #[.int .i64 (n : Int), .slice A1 ys1.length c1] 41)).drew.cell? ⟨w.heap.size + 1, 1, none⟩ = some (.int .i64 a) ∧ (w1.alloc (.cells #[.int .i64 (n : Int), .slice A1 ys1.length c1] 41)).drew.cell? ⟨w.heap.size + 1, 2, none⟩ = some (.int .i64 b) ∧ (w1.alloc (.cells #[.int .i64 (n : Int), .slice A1 ys1.length c1] 41)).drew.cell? ⟨w.heap.size + 1, 3, none⟩ = some (.int .i64 x)) := ⟨Mem.cell_of HBZ.out 0, Mem.cell_of HBZ.out 1, HP2.out.cells.2.2.2.1, HP2.out.cells.2.2.2.2.1, HP2.out.cells.2.2.2.2.2.1⟩
  refine start_ (n := 13) (S := (fun w' => w'.cell? ⟨w1.heap.size, 0, none⟩ = some (.int .i64 (n : Int)) ∧ w'.cell? ⟨w1.heap.size, 1, none⟩ = some (.slice A1 ys1.length c1) ∧ w'.cell? ⟨w.heap.size + 1, 1, none⟩ = some (.int .i64 a) ∧ w'.cell? ⟨w.heap.size + 1, 2, none⟩ = some (.int .i64 b) ∧ w'.cell? ⟨w.heap.size + 1, 3, none⟩ = some (.int .i64 x))) (ds := [11]) #[false, false, false, false, false, false, false, false, false, false, false, false, false] (by kernel_rfl) rfl rfl (HS.out) (fun hHeld => ?_)
  refine with_tabW plk3.tab20 plk3.bits20 (fun HT_ HW_ => ?_)
  refine pure_ (i := 1) (N := (some 150)) (v := ?_) (a' := ?_) #[false, true, false, false, false, false, false, false, false, false, false, false, false] rfl rfl (any_of HT_.out (by kernel_rfl)) (fun _ _ _ h => h) (Or.inl ⟨by rfl, ?_⟩) ?_ ?_
  rotate_left
  · intro w'
    go_simp
    with_reducible rfl
  rotate_left
  · simp only [Act.put, List.setIfInBounds_toArray, List.set_cons_zero, List.set_cons_succ, i64_w, i32_w]
    rfl
  refine pure_ (i := 2) (N := (some 151)) (v := ?_) (a' := ?_) #[false, true, true, false, false, false, false, false, false, false, false, false, false] rfl rfl (any_of HT_.out (by kernel_rfl)) (fun _ _ _ h => h) (Or.inl ⟨by rfl, ?_⟩) ?_ ?_
  rotate_left
  · intro w'
    go_simp
    with_reducible rfl
  rotate_left
  · simp only [Act.put, List.setIfInBounds_toArray, List.set_cons_zero, List.set_cons_succ, i64_w, i32_w]
    rfl
  refine pure_ (i := 4) (N := (some 153)) (v := ?_) (a' := ?_) #[false, true, true, false, true, false, false, false, false, false, false, false, false] rfl rfl (any_of HT_.out (by kernel_rfl)) (fun _ _ _ h => h) (Or.inl ⟨by rfl, ?_⟩) ?_ ?_
  rotate_left
  · intro w'
    go_simp
    with_reducible rfl
  rotate_left
  · simp only [Act.put, List.setIfInBounds_toArray, List.set_cons_zero, List.set_cons_succ, i64_w, i32_w]
    rfl
  refine pure_ (i := 6) (N := (some 155)) (v := ?_) (a' := ?_) #[false, true, true, false, true, false, true, false, false, false, false, false, false] rfl rfl (any_of HT_.out (by kernel_rfl)) (fun _ _ _ h => h) (Or.inl ⟨by rfl, ?_⟩) ?_ ?_
  rotate_left
  · intro w'
    go_simp
    with_reducible rfl
  rotate_left
  · simp only [Act.put, List.setIfInBounds_toArray, List.set_cons_zero, List.set_cons_succ, i64_w, i32_w]
    rfl
  refine pure_ (i := 9) (N := (some 158)) (v := ?_) (a' := ?_) #[false, true, true, false, true, false, true, false, false, true, false, false, false] rfl rfl (any_of HT_.out (by kernel_rfl)) (fun _ _ _ h => h) (Or.inl ⟨by rfl, ?_⟩) ?_ ?_
  rotate_left
  · intro w'
    go_simp
    with_reducible rfl
  rotate_left
  · simp only [Act.put, List.setIfInBounds_toArray, List.set_cons_zero, List.set_cons_succ, i64_w, i32_w]
    rfl
  refine take_ (i := 0) (N := (some 149)) (v := ?_) (a' := ?_) #[true, true, true, false, true, false, true, false, false, true, false, false, false] rfl rfl (take_ofW HT_.out HW_.out (by kernel_rfl)) (fun _ _ _ h => h) (Or.inl ⟨by rfl, ?_⟩) hHeld ?_ ?_
  rotate_left
  · rintro w' ⟨s0, s1, s2, s3, s4⟩
    go_simp
    with_reducible rfl
  rotate_left
  · simp only [Act.put, List.setIfInBounds_toArray, List.set_cons_zero, List.set_cons_succ, i64_w, i32_w]
    rfl
  refine take_ (i := 3) (N := (some 152)) (v := ?_) (a' := ?_) #[true, true, true, true, true, false, true, false, false, true, false, false, false] rfl rfl (take_ofW HT_.out HW_.out (by kernel_rfl)) (fun _ _ _ h => h) (Or.inl ⟨by rfl, ?_⟩) hHeld ?_ ?_
  rotate_left
  · rintro w' ⟨s0, s1, s2, s3, s4⟩
    go_simp
    with_reducible rfl
  rotate_left
  · simp only [Act.put, List.setIfInBounds_toArray, List.set_cons_zero, List.set_cons_succ, i64_w, i32_w]
    rfl
  refine take_ (i := 5) (N := (some 154)) (v := ?_) (a' := ?_) #[true, true, true, true, true, true, true, false, false, true, false, false, false] rfl rfl (take_ofW HT_.out HW_.out (by kernel_rfl)) (fun _ _ _ h => h) (Or.inl ⟨by rfl, ?_⟩) hHeld ?_ ?_
  rotate_left
  · rintro w' ⟨s0, s1, s2, s3, s4⟩
    go_simp
    with_reducible rfl
  rotate_left
  · simp only [Act.put, List.setIfInBounds_toArray, List.set_cons_zero, List.set_cons_succ, i64_w, i32_w]
    rfl
  refine take_ (i := 7) (N := (some 156)) (v := ?_) (a' := ?_) #[true, true, true, true, true, true, true, true, false, true, false, false, false] rfl rfl (take_ofW HT_.out HW_.out (by kernel_rfl)) (fun _ _ _ h => h) (Or.inl ⟨by rfl, ?_⟩) hHeld ?_ ?_
  rotate_left
  · rintro w' ⟨s0, s1, s2, s3, s4⟩
    go_simp
    with_reducible rfl
  rotate_left
  · simp only [Act.put, List.setIfInBounds_toArray, List.set_cons_zero, List.set_cons_succ, i64_w, i32_w]
    rfl
  refine one_ (i := 8) (N := (some 157)) #[true, true, true, true, true, true, true, true, true, true, false, false, false] rfl rfl (one_of HT_.out (by kernel_rfl)) (by decide) (fun K hK => ?_)
  refine goes_ Try.func14 (by kernel_rfl) rfl #[.pointer (some ⟨g, 0, none⟩), .int .i64 a, .int .i64 b, .int .i64 x] (by rfl) rfl rfl (by (try simp only [List.map_toArray, List.map_cons, List.map_nil]); first | done | rfl) ?_
  refine (HN2.out.double a b x).mono ?_
  rintro e w3 ⟨P3, rfl, h3, hw3⟩
  refine ⟨_, rfl, ?_⟩
  have hn2 : ∀ i, i < 3 → ¬ P (w.heap.size + i) := fun i _ hi => by have := HPL.out _ hi; omega
  have HP3 := Aside0.mk (HP2.out.kept hw3.kept hn2)
  have HN3 := Aside0.mk h3
  have HW3 := Aside0.mk hw3
  have hbz3 := (hw3.kept.2 w1.heap.size (blk_lt HBZ.out) (fun hi => by have := HPL.out _ hi; have := HP1.out.size; omega)).trans HBZ.out
  have HBZ3 := Aside0.mk hbz3
  clear h3 hw3 hn2 hbz3
  have cz0 := HP3.out.cells.2.2.2.2.2.2.2.2.2.1
  have cz1 := HP3.out.cells.2.2.2.2.2.2.2.2.2.2.1
  have fz0 := HP3.out.cells.2.2.2.2.2.2.2.2.2.2.2.1
  have fz1 := HP3.out.cells.2.2.2.2.2.2.2.2.2.2.2.2
  refine hK.out _ _ (⟨Mem.cell_of HBZ3.out 0, Mem.cell_of HBZ3.out 1, HP3.out.cells.2.2.2.1, HP3.out.cells.2.2.2.2.1, HP3.out.cells.2.2.2.2.2.1⟩) (fun hHeld => ?_)
  clear hK K
  refine norm_ (a' := ?_) ?_ ?_
  rotate_left
  · show Act.put _ (some 157) _ = _
    simp only [Act.put, List.setIfInBounds_toArray, List.set_cons_zero, List.set_cons_succ, i64_w, i32_w]
    rfl
  refine pure_ (i := 10) (N := (some 159)) (v := ?_) (a' := ?_) #[true, true, true, true, true, true, true, true, true, true, true, false, false] rfl rfl (any_of HT_.out (by kernel_rfl)) (fun _ _ _ h => h) (Or.inl ⟨by rfl, ?_⟩) ?_ ?_
  rotate_left
  · intro w'
    go_simp
    with_reducible rfl
  rotate_left
  · simp only [Act.put, List.setIfInBounds_toArray, List.set_cons_zero, List.set_cons_succ, i64_w, i32_w]
    rfl
  refine last_ (i := 11) (N := none) #[true, true, true, true, true, true, true, true, true, true, true, true, false] rfl rfl (one_of HT_.out (by kernel_rfl)) (by decide) (fun K hK => ?_)
  refine skip_ (w1 := (w3.setCell ⟨w.heap.size + 2, 0, none⟩ (.int .i64 (n : Int))).setCell ⟨w.heap.size + 2, 1, none⟩ (.slice A1 ys1.length c1)) (by rfl) rfl ?_ ?_
  · go_simp
  refine hK.out _ _ ?_
  clear hK K
  refine pure_ (i := 12) (N := (some 7)) (v := ?_) (a' := ?_) #[true, true, true, true, true, true, true, true, true, true, true, true, true] rfl rfl (any_of HT_.out (by kernel_rfl)) (fun _ _ _ h => h) (Or.inl ⟨by rfl, ?_⟩) ?_ ?_
  rotate_left
  · intro w'
    go_simp
    with_reducible rfl
  rotate_left
  · simp only [Act.put, List.setIfInBounds_toArray, List.set_cons_zero, List.set_cons_succ, i64_w, i32_w]
    rfl
  refine done_ (done_of HT_.out (by kernel_rfl)) ?_
  go_wp2
  refine bodyPost_ret (results_ct rfl _ _ (w.heap.size + 2) 41 #[.int .i64 (n : Int), .slice A1 ys1.length c1] (0, 0) _ rfl (HP3.out.ret _ _) Try.underlying41 rfl (by kernel_rfl)) rfl ?_
  refine ⟨.slice A1 ys1.length c1, ys1, rfl, ?_⟩
  rw [HPF.out]
  have hq : ∀ k, (((Q k ∧ k < w.heap.size) ∨ W0.heap.size ≤ k) ∧ k < w1.heap.size) → ¬ P k := fun k hk hp => by have := HPL.out k hp; have := HP0.out.size; rcases hk.1 with h_ | h_; exact HAP.out.1 k h_.1 hp; omega
  refine play_end HN3.out HT1.out (V_base (V_went HV2.out HW3.out hq)) (HW3.out.apart hq (fun k hk => Nat.lt_of_lt_of_le hk.2 (Nat.le_of_lt (blk_lt HBZ.out)))) (fun k hk => ?_) (fun k hk => ?_) (HW2.out.trans HW3.out) (fun k hk => hk.1.elim (fun h_ => .inl h_.1) (fun h_ => .inr (by have := HP0.out.size; omega))) _ _
  · have := HP0.out.size; rcases hk.1 with h_ | h_ <;> omega
  · have := HP2.out.size; rcases HW3.out.new k hk with h_ | h_; have := HPL.out k h_; omega; omega
end Go.Proofs.Ytchepjbdaojidaa.PBags
namespace Go.Proofs.Ytchepjbdaojidaa.PBags
open Go.RowKit Go.Proofs.YtchepjbdaojidaaW.PrintWords Go.Proofs.YtchepjbdaojidaaW.PrintLast Go.Proofs.YtchepjbdaojidaaW.PrintMore
attribute [local go_sem] max2_int min2_int max_two min_two max_three min_three max_four min_four
set_option linter.unusedVariables false
set_option linter.unusedSimpArgs false
def plk4.T23 : Bool × List (List Nat × List Nat) := (true, [([], []), ([], []), ([], []), ([2], [2]), ([], []), ([4], [4]), ([], []), ([6], [6]), ([], []), ([8], [8]), ([], []), ([10], [10]), ([1, 3, 5, 7, 9, 11], [1, 3, 5, 7, 9, 11]), ([], []), ([12, 13], [12, 13]), ([0, 12, 0], [0]), ([14, 15, 0, 1, 2, 3, 4, 5, 6, 7, 8, 9, 10, 11, 12, 13, 14, 15], [14])])
def plk4.B23 : List Nat := [0, 0, 0, 4, 0, 16, 0, 64, 0, 256, 0, 1024, 4094, 0, 16382, 8191, 65535]
theorem plk4.tab23 : rtab .any (opsOf Try.f18 23) = plk4.T23 := by kernel_rfl
theorem plk4.bits23 : waitsOk plk4.T23.2 plk4.B23 = true := by kernel_rfl
set_option maxHeartbeats 8000000 in
set_option maxRecDepth 100000 in
theorem play_k4 {w : World} {P Q Qp : Nat → Prop} {g n : Nat} {bs : List (List Frame)} {ys : List S45} (hN : Net w P g n bs) (T : Tie n bs ys) (A : Option Addr) (c : Nat) (hV : Kd.V k45 45 w 0 Q (.slice A ys.length c) ys) (hQ : ∀ k, Q k → ¬ P k)
    (a b x p m : Int) (Ap : Option Addr) (cp : Nat) (lp : List Int) (hp : Kd.V (Kd.int .u8) 5 w 0 Qp (.slice Ap lp.length cp) lp) (hQp : ∀ k, Qp k → ¬ P k) (hlp : lp.length ≤ 140737488351232) :
    Calls Try.prog 18 #[.pointer (some ⟨g, 0, none⟩), .agg #[.int .i64 (n : Int), .slice A ys.length c], .agg #[.int .i64 4, .int .i64 a, .int .i64 b, .int .i64 x, .int .i64 p, .int .i64 m, .slice Ap lp.length cp]] w fun e w' =>
      ∃ v ys', e = .returned (.tuple #[.agg #[.int .i64 (n : Int), v], .bool true]) ∧ ∃ P' Q', Net w' P' g n (playF n bs 4 a b x p m lp) ∧ Tie n (playF n bs 4 a b x p m lp) ys' ∧ Kd.V k45 45 w' 0 Q' v ys' ∧ (∀ k, Q' k → ¬ P' k) ∧ (∀ k, Q' k → Q k ∨ w.heap.size ≤ k) ∧ Went w P w' P' := by
  have hl : ys.length ≤ 1048576 := tie_small T hN.small hN.i.size.2.2
  have HT := Aside0.mk T
  have HL := Aside0.mk hl
  have HAP := Aside0.mk (And.intro hQ (And.intro hQp hlp))
  obtain ⟨W0, hW0⟩ : ∃ W0, ((w.alloc (.cells #[.int .i64 (n : Int), .slice A ys.length c] 41)).alloc (.cells #[.int .i64 4, .int .i64 a, .int .i64 b, .int .i64 x, .int .i64 p, .int .i64 m, .slice Ap lp.length cp] 37)).alloc (.cells #[.int .i64 0, .slice none 0 0] 41) = W0 := ⟨_, rfl⟩
  have hB0 : Below w.heap.size w W0 := by rw [← hW0]; exact below_alloc (below_alloc (below_alloc (Below.refl _ _) _) _) _
  have hPB : PB w W0 n A ys.length c 4 a b x p m Ap lp.length cp := by rw [← hW0]; exact PB.start w n A ys.length c 4 a b x p m Ap lp.length cp
  have HB0 := Aside0.mk hB0
  have HP0 := Aside0.mk hPB
  have HN0 := Aside0.mk (hN.below hB0)
  have HPL := Aside0.mk hN.lt
  have HV0 := Aside0.mk (Kd.V_below (Kd.V_bound hV) hB0)
  have HVP := Aside0.mk (Kd.V_below (Kd.V_bound hp) hB0)
  obtain ⟨ys1, hd1, hd2⟩ := spoil_f T hN.small hl a b x p m (2 * ys.length + 2) (Nat.le_refl _)
  have HT1 := Aside0.mk hd2
  have HRC := Aside0.mk (topiaryref08_Spoil.calls (2 * ys.length + 2) (n : Int) _ A c ys a b x p m (n : Int) ys1 (spoilF n bs a b x p m).1 W0 (V_base HV0.out) hd1)
  clear hd1 hd2
  have HPF : Aside0 (playF n bs 4 a b x p m lp = (spoilF n bs a b x p m).2) := ⟨rfl⟩
  clear hN T hV hQ hp hQp hlp hl hB0
  obtain ⟨p0, p1, a0, a1, a2, a3, a4, a5, a6, r0, r1, f0, f1⟩ := hPB.cells
  clear hPB
  go_enter Try.func18, Try.ntmps18
  go_wp2_with (fail)
  clear hW0
  refine HRC.out.mono ?_
  rintro e w1 ⟨v1, rfl, hv1, hb1⟩
  obtain ⟨A1, c1, rfl⟩ := Kd.V_slice hv1
  have HV1 := Aside0.mk (Kd.V_bound hv1)
  have HP1 := Aside0.mk (HP0.out.below hb1)
  have HN1 := Aside0.mk (HN0.out.below hb1)
  have HW1 := Aside0.mk ((Went.below HB0.out P).trans (Went.below hb1 P))
  have HSZ := Aside0.mk hb1.size
  clear hv1 hb1 p0 p1 a0 a1 a2 a3 a4 a5 a6 r0 r1 f0 f1 HRC
  have HP2 := Aside0.mk (HP1.out.below (below_drew1 (below_alloc (Below.refl w1.heap.size w1) (.cells #[.int .i64 (n : Int), .slice A1 ys1.length c1] 41))))
  have HN2 := Aside0.mk (HN1.out.below (below_drew1 (below_alloc (Below.refl w1.heap.size w1) (.cells #[.int .i64 (n : Int), .slice A1 ys1.length c1] 41))))
  have HW2 := Aside0.mk (HW1.out.trans (Went.below (below_drew1 (below_alloc (Below.refl w1.heap.size w1) (.cells #[.int .i64 (n : Int), .slice A1 ys1.length c1] 41))) P))
  have HV2 := Aside0.mk (Kd.V_drew (Kd.V_alloc HV1.out (.cells #[.int .i64 (n : Int), .slice A1 ys1.length c1] 41)))
  have hbz : (w1.alloc (.cells #[.int .i64 (n : Int), .slice A1 ys1.length c1] 41)).drew.heap[w1.heap.size]? = some (.cells #[.int .i64 (n : Int), .slice A1 ys1.length c1] 41 (0, 0)) := Mem.alloc_new _ _
  have HBZ := Aside0.mk hbz
  clear hbz
  go_wp2_with (fail)
  have HS : Aside0 ((w1.alloc (.cells #[.int .i64 (n : Int), .slice A1 ys1.length c1] 41)).drew.cell? ⟨w1.heap.size, 0, none⟩ = some (.int .i64 (n : Int)) ∧ (w1.alloc (.cells #[.int .i64 (n : Int), .slice A1 ys1.length c1] 41)).drew.cell? ⟨w1.heap.size, 1, none⟩ = some (.slice A1 ys1.length c1) ∧ (w1.alloc (.cells #[.int .i64 (n : Int), .slice A1 ys1.length c1] 41)).drew.cell? ⟨w.heap.size + 1, 1, none⟩ = some (.int .i64 a) ∧ (w1.alloc (.cells #[.int .i64 (n : Int), .slice A1 ys1.length c1] 41)).drew.cell? ⟨w.heap.size + 1, 2, none⟩ = some (.int .i64 b) ∧ (w1.alloc (.cells #[.int .i64 (n : Int), .slice A1 ys1.length c1] 41)).drew.cell? ⟨w.heap.size + 1, 3, none⟩ = some (.int .i64 x) ∧ (w1.alloc (.cells #[.int .i64 (n : Int), .slice A1 ys1.length c1] 41)).drew.cell? ⟨w.heap.size + 1, 4, none⟩ = some (.int .i64 p) ∧ (w1.alloc (.cells #[.int .i64 (n : Int), .slice A1 ys1.length c1] 41)).drew.cell? ⟨w.heap.size + 1, 5, none⟩ = some (.int .i64 m)) := ⟨Mem.cell_of HBZ.out 0, Mem.cell_of HBZ.out 1, HP2.out.cells.2.2.2.1, HP2.out.cells.2.2.2.2.1, HP2.out.cells.2.2.2.2.2.1, HP2.out.cells.2.2.2.2.2.2.1, HP2.out.cells.2.2.2.2.2.2.2.1⟩
  refine start_ (n := 17) (S := (fun w' => w'.cell? ⟨w1.heap.size, 0, none⟩ = some (.int .i64 (n : Int)) ∧ w'.cell? ⟨w1.heap.size, 1, none⟩ = some (.slice A1 ys1.length c1) ∧ w'.cell? ⟨w.heap.size + 1, 1, none⟩ = some (.int .i64 a) ∧ w'.cell? ⟨w.heap.size + 1, 2, none⟩ = some (.int .i64 b) ∧ w'.cell? ⟨w.heap.size + 1, 3, none⟩ = some (.int .i64 x) ∧ w'.cell? ⟨w.heap.size + 1, 4, none⟩ = some (.int .i64 p) ∧ w'.cell? ⟨w.heap.size + 1, 5, none⟩ = some (.int .i64 m))) (ds := [15]) #[false, false, false, false, false, false, false, false, false, false, false, false, false, false, false, false, false] (by kernel_rfl) rfl rfl (HS.out) (fun hHeld => ?_)
  refine with_tabW plk4.tab23 plk4.bits23 (fun HT_ HW_ => ?_)
  refine pure_ (i := 1) (N := (some 178)) (v := ?_) (a' := ?_) #[false, true, false, false, false, false, false, false, false, false, false, false, false, false, false, false, false] rfl rfl (any_of HT_.out (by kernel_rfl)) (fun _ _ _ h => h) (Or.inl ⟨by rfl, ?_⟩) ?_ ?_
  rotate_left
  · intro w'
    go_simp
    with_reducible rfl
  rotate_left
  · simp only [Act.put, List.setIfInBounds_toArray, List.set_cons_zero, List.set_cons_succ, i64_w, i32_w]
    rfl
  refine pure_ (i := 2) (N := (some 179)) (v := ?_) (a' := ?_) #[false, true, true, false, false, false, false, false, false, false, false, false, false, false, false, false, false] rfl rfl (any_of HT_.out (by kernel_rfl)) (fun _ _ _ h => h) (Or.inl ⟨by rfl, ?_⟩) ?_ ?_
  rotate_left
  · intro w'
    go_simp
    with_reducible rfl
  rotate_left
  · simp only [Act.put, List.setIfInBounds_toArray, List.set_cons_zero, List.set_cons_succ, i64_w, i32_w]
    rfl
  refine pure_ (i := 4) (N := (some 181)) (v := ?_) (a' := ?_) #[false, true, true, false, true, false, false, false, false, false, false, false, false, false, false, false, false] rfl rfl (any_of HT_.out (by kernel_rfl)) (fun _ _ _ h => h) (Or.inl ⟨by rfl, ?_⟩) ?_ ?_
  rotate_left
  · intro w'
    go_simp
    with_reducible rfl
  rotate_left
  · simp only [Act.put, List.setIfInBounds_toArray, List.set_cons_zero, List.set_cons_succ, i64_w, i32_w]
    rfl
  refine pure_ (i := 6) (N := (some 183)) (v := ?_) (a' := ?_) #[false, true, true, false, true, false, true, false, false, false, false, false, false, false, false, false, false] rfl rfl (any_of HT_.out (by kernel_rfl)) (fun _ _ _ h => h) (Or.inl ⟨by rfl, ?_⟩) ?_ ?_
  rotate_left
  · intro w'
    go_simp
    with_reducible rfl
  rotate_left
  · simp only [Act.put, List.setIfInBounds_toArray, List.set_cons_zero, List.set_cons_succ, i64_w, i32_w]
    rfl
  refine pure_ (i := 8) (N := (some 185)) (v := ?_) (a' := ?_) #[false, true, true, false, true, false, true, false, true, false, false, false, false, false, false, false, false] rfl rfl (any_of HT_.out (by kernel_rfl)) (fun _ _ _ h => h) (Or.inl ⟨by rfl, ?_⟩) ?_ ?_
  rotate_left
  · intro w'
    go_simp
    with_reducible rfl
  rotate_left
  · simp only [Act.put, List.setIfInBounds_toArray, List.set_cons_zero, List.set_cons_succ, i64_w, i32_w]
    rfl
  refine pure_ (i := 10) (N := (some 187)) (v := ?_) (a' := ?_) #[false, true, true, false, true, false, true, false, true, false, true, false, false, false, false, false, false] rfl rfl (any_of HT_.out (by kernel_rfl)) (fun _ _ _ h => h) (Or.inl ⟨by rfl, ?_⟩) ?_ ?_
  rotate_left
  · intro w'
    go_simp
    with_reducible rfl
  rotate_left
  · simp only [Act.put, List.setIfInBounds_toArray, List.set_cons_zero, List.set_cons_succ, i64_w, i32_w]
    rfl
  refine pure_ (i := 13) (N := (some 190)) (v := ?_) (a' := ?_) #[false, true, true, false, true, false, true, false, true, false, true, false, false, true, false, false, false] rfl rfl (any_of HT_.out (by kernel_rfl)) (fun _ _ _ h => h) (Or.inl ⟨by rfl, ?_⟩) ?_ ?_
  rotate_left
  · intro w'
    go_simp
    with_reducible rfl
  rotate_left
  · simp only [Act.put, List.setIfInBounds_toArray, List.set_cons_zero, List.set_cons_succ, i64_w, i32_w]
    rfl
  refine take_ (i := 0) (N := (some 177)) (v := ?_) (a' := ?_) #[true, true, true, false, true, false, true, false, true, false, true, false, false, true, false, false, false] rfl rfl (take_ofW HT_.out HW_.out (by kernel_rfl)) (fun _ _ _ h => h) (Or.inl ⟨by rfl, ?_⟩) hHeld ?_ ?_
  rotate_left
  · rintro w' ⟨s0, s1, s2, s3, s4, s5, s6⟩
    go_simp
    with_reducible rfl
  rotate_left
  · simp only [Act.put, List.setIfInBounds_toArray, List.set_cons_zero, List.set_cons_succ, i64_w, i32_w]
    rfl
  refine take_ (i := 3) (N := (some 180)) (v := ?_) (a' := ?_) #[true, true, true, true, true, false, true, false, true, false, true, false, false, true, false, false, false] rfl rfl (take_ofW HT_.out HW_.out (by kernel_rfl)) (fun _ _ _ h => h) (Or.inl ⟨by rfl, ?_⟩) hHeld ?_ ?_
  rotate_left
  · rintro w' ⟨s0, s1, s2, s3, s4, s5, s6⟩
    go_simp
    with_reducible rfl
  rotate_left
  · simp only [Act.put, List.setIfInBounds_toArray, List.set_cons_zero, List.set_cons_succ, i64_w, i32_w]
    rfl
  refine take_ (i := 5) (N := (some 182)) (v := ?_) (a' := ?_) #[true, true, true, true, true, true, true, false, true, false, true, false, false, true, false, false, false] rfl rfl (take_ofW HT_.out HW_.out (by kernel_rfl)) (fun _ _ _ h => h) (Or.inl ⟨by rfl, ?_⟩) hHeld ?_ ?_
  rotate_left
  · rintro w' ⟨s0, s1, s2, s3, s4, s5, s6⟩
    go_simp
    with_reducible rfl
  rotate_left
  · simp only [Act.put, List.setIfInBounds_toArray, List.set_cons_zero, List.set_cons_succ, i64_w, i32_w]
    rfl
  refine take_ (i := 7) (N := (some 184)) (v := ?_) (a' := ?_) #[true, true, true, true, true, true, true, true, true, false, true, false, false, true, false, false, false] rfl rfl (take_ofW HT_.out HW_.out (by kernel_rfl)) (fun _ _ _ h => h) (Or.inl ⟨by rfl, ?_⟩) hHeld ?_ ?_
  rotate_left
  · rintro w' ⟨s0, s1, s2, s3, s4, s5, s6⟩
    go_simp
    with_reducible rfl
  rotate_left
  · simp only [Act.put, List.setIfInBounds_toArray, List.set_cons_zero, List.set_cons_succ, i64_w, i32_w]
    rfl
  refine take_ (i := 9) (N := (some 186)) (v := ?_) (a' := ?_) #[true, true, true, true, true, true, true, true, true, true, true, false, false, true, false, false, false] rfl rfl (take_ofW HT_.out HW_.out (by kernel_rfl)) (fun _ _ _ h => h) (Or.inl ⟨by rfl, ?_⟩) hHeld ?_ ?_
  rotate_left
  · rintro w' ⟨s0, s1, s2, s3, s4, s5, s6⟩
    go_simp
    with_reducible rfl
  rotate_left
  · simp only [Act.put, List.setIfInBounds_toArray, List.set_cons_zero, List.set_cons_succ, i64_w, i32_w]
    rfl
  refine take_ (i := 11) (N := (some 188)) (v := ?_) (a' := ?_) #[true, true, true, true, true, true, true, true, true, true, true, true, false, true, false, false, false] rfl rfl (take_ofW HT_.out HW_.out (by kernel_rfl)) (fun _ _ _ h => h) (Or.inl ⟨by rfl, ?_⟩) hHeld ?_ ?_
  rotate_left
  · rintro w' ⟨s0, s1, s2, s3, s4, s5, s6⟩
    go_simp
    with_reducible rfl
  rotate_left
  · simp only [Act.put, List.setIfInBounds_toArray, List.set_cons_zero, List.set_cons_succ, i64_w, i32_w]
    rfl
  refine one_ (i := 12) (N := (some 189)) #[true, true, true, true, true, true, true, true, true, true, true, true, true, true, false, false, false] rfl rfl (one_of HT_.out (by kernel_rfl)) (by decide) (fun K hK => ?_)
  refine goes_ Try.func25 (by kernel_rfl) rfl #[.pointer (some ⟨g, 0, none⟩), .int .i64 a, .int .i64 b, .int .i64 x, .int .i64 p, .int .i64 m] (by rfl) rfl rfl (by (try simp only [List.map_toArray, List.map_cons, List.map_nil]); first | done | rfl) ?_
  refine (HN2.out.spoil a b x p m).mono ?_
  rintro e w3 ⟨P3, rfl, h3, hw3⟩
  refine ⟨_, rfl, ?_⟩
  have hn2 : ∀ i, i < 3 → ¬ P (w.heap.size + i) := fun i _ hi => by have := HPL.out _ hi; omega
  have HP3 := Aside0.mk (HP2.out.kept hw3.kept hn2)
  have HN3 := Aside0.mk h3
  have HW3 := Aside0.mk hw3
  have hbz3 := (hw3.kept.2 w1.heap.size (blk_lt HBZ.out) (fun hi => by have := HPL.out _ hi; have := HP1.out.size; omega)).trans HBZ.out
  have HBZ3 := Aside0.mk hbz3
  clear h3 hw3 hn2 hbz3
  have cz0 := HP3.out.cells.2.2.2.2.2.2.2.2.2.1
  have cz1 := HP3.out.cells.2.2.2.2.2.2.2.2.2.2.1
  have fz0 := HP3.out.cells.2.2.2.2.2.2.2.2.2.2.2.1
  have fz1 := HP3.out.cells.2.2.2.2.2.2.2.2.2.2.2.2
  refine hK.out _ _ (⟨Mem.cell_of HBZ3.out 0, Mem.cell_of HBZ3.out 1, HP3.out.cells.2.2.2.1, HP3.out.cells.2.2.2.2.1, HP3.out.cells.2.2.2.2.2.1, HP3.out.cells.2.2.2.2.2.2.1, HP3.out.cells.2.2.2.2.2.2.2.1⟩) (fun hHeld => ?_)
  clear hK K
  refine norm_ (a' := ?_) ?_ ?_
  rotate_left
  · show Act.put _ (some 189) _ = _
    simp only [Act.put, List.setIfInBounds_toArray, List.set_cons_zero, List.set_cons_succ, i64_w, i32_w]
    rfl
  refine pure_ (i := 14) (N := (some 191)) (v := ?_) (a' := ?_) #[true, true, true, true, true, true, true, true, true, true, true, true, true, true, true, false, false] rfl rfl (any_of HT_.out (by kernel_rfl)) (fun _ _ _ h => h) (Or.inl ⟨by rfl, ?_⟩) ?_ ?_
  rotate_left
  · intro w'
    go_simp
    with_reducible rfl
  rotate_left
  · simp only [Act.put, List.setIfInBounds_toArray, List.set_cons_zero, List.set_cons_succ, i64_w, i32_w]
    rfl
  refine last_ (i := 15) (N := none) #[true, true, true, true, true, true, true, true, true, true, true, true, true, true, true, true, false] rfl rfl (one_of HT_.out (by kernel_rfl)) (by decide) (fun K hK => ?_)
  refine skip_ (w1 := (w3.setCell ⟨w.heap.size + 2, 0, none⟩ (.int .i64 (n : Int))).setCell ⟨w.heap.size + 2, 1, none⟩ (.slice A1 ys1.length c1)) (by rfl) rfl ?_ ?_
  · go_simp
  refine hK.out _ _ ?_
  clear hK K
  refine pure_ (i := 16) (N := (some 7)) (v := ?_) (a' := ?_) #[true, true, true, true, true, true, true, true, true, true, true, true, true, true, true, true, true] rfl rfl (any_of HT_.out (by kernel_rfl)) (fun _ _ _ h => h) (Or.inl ⟨by rfl, ?_⟩) ?_ ?_
  rotate_left
  · intro w'
    go_simp
    with_reducible rfl
  rotate_left
  · simp only [Act.put, List.setIfInBounds_toArray, List.set_cons_zero, List.set_cons_succ, i64_w, i32_w]
    rfl
  refine done_ (done_of HT_.out (by kernel_rfl)) ?_
  go_wp2
  refine bodyPost_ret (results_ct rfl _ _ (w.heap.size + 2) 41 #[.int .i64 (n : Int), .slice A1 ys1.length c1] (0, 0) _ rfl (HP3.out.ret _ _) Try.underlying41 rfl (by kernel_rfl)) rfl ?_
  refine ⟨.slice A1 ys1.length c1, ys1, rfl, ?_⟩
  rw [HPF.out]
  have hq : ∀ k, (((Q k ∧ k < w.heap.size) ∨ W0.heap.size ≤ k) ∧ k < w1.heap.size) → ¬ P k := fun k hk hp => by have := HPL.out k hp; have := HP0.out.size; rcases hk.1 with h_ | h_; exact HAP.out.1 k h_.1 hp; omega
  refine play_end HN3.out HT1.out (V_base (V_went HV2.out HW3.out hq)) (HW3.out.apart hq (fun k hk => Nat.lt_of_lt_of_le hk.2 (Nat.le_of_lt (blk_lt HBZ.out)))) (fun k hk => ?_) (fun k hk => ?_) (HW2.out.trans HW3.out) (fun k hk => hk.1.elim (fun h_ => .inl h_.1) (fun h_ => .inr (by have := HP0.out.size; omega))) _ _
  · have := HP0.out.size; rcases hk.1 with h_ | h_ <;> omega
  · have := HP2.out.size; rcases HW3.out.new k hk with h_ | h_; have := HPL.out k h_; omega; omega
end Go.Proofs.Ytchepjbdaojidaa.PBags
namespace Go.Proofs.Ytchepjbdaojidaa.PBags
open Go.RowKit Go.Proofs.YtchepjbdaojidaaW.PrintWords Go.Proofs.YtchepjbdaojidaaW.PrintLast Go.Proofs.YtchepjbdaojidaaW.PrintMore
attribute [local go_sem] max2_int min2_int max_two min_two max_three min_three max_four min_four
set_option linter.unusedVariables false
set_option linter.unusedSimpArgs false
set_option maxHeartbeats 8000000 in
set_option maxRecDepth 100000 in
theorem play_k5 {w : World} {P Q Qp : Nat → Prop} {g n : Nat} {bs : List (List Frame)} {ys : List S45} (hN : Net w P g n bs) (T : Tie n bs ys) (A : Option Addr) (c : Nat) (hV : Kd.V k45 45 w 0 Q (.slice A ys.length c) ys) (hQ : ∀ k, Q k → ¬ P k)
    (a b x p m : Int) (Ap : Option Addr) (cp : Nat) (lp : List Int) (hp : Kd.V (Kd.int .u8) 5 w 0 Qp (.slice Ap lp.length cp) lp) (hQp : ∀ k, Qp k → ¬ P k) (hlp : lp.length ≤ 140737488351232) (kd : Int) (h0 : kd ≠ 0) (h1 : kd ≠ 1) (h2 : kd ≠ 2) (h3 : kd ≠ 3) (h4 : kd ≠ 4) :
    Calls Try.prog 18 #[.pointer (some ⟨g, 0, none⟩), .agg #[.int .i64 (n : Int), .slice A ys.length c], .agg #[.int .i64 kd, .int .i64 a, .int .i64 b, .int .i64 x, .int .i64 p, .int .i64 m, .slice Ap lp.length cp]] w fun e w' =>
      ∃ v ys', e = .returned (.tuple #[.agg #[.int .i64 (n : Int), v], .bool true]) ∧ ∃ P' Q', Net w' P' g n (playF n bs kd a b x p m lp) ∧ Tie n (playF n bs kd a b x p m lp) ys' ∧ Kd.V k45 45 w' 0 Q' v ys' ∧ (∀ k, Q' k → ¬ P' k) ∧ (∀ k, Q' k → Q k ∨ w.heap.size ≤ k) ∧ Went w P w' P' := by
  have hl : ys.length ≤ 1048576 := tie_small T hN.small hN.i.size.2.2
  have HT := Aside0.mk T
  have HL := Aside0.mk hl
  have HAP := Aside0.mk (And.intro hQ (And.intro hQp hlp))
  obtain ⟨W0, hW0⟩ : ∃ W0, ((w.alloc (.cells #[.int .i64 (n : Int), .slice A ys.length c] 41)).alloc (.cells #[.int .i64 kd, .int .i64 a, .int .i64 b, .int .i64 x, .int .i64 p, .int .i64 m, .slice Ap lp.length cp] 37)).alloc (.cells #[.int .i64 0, .slice none 0 0] 41) = W0 := ⟨_, rfl⟩
  have hB0 : Below w.heap.size w W0 := by rw [← hW0]; exact below_alloc (below_alloc (below_alloc (Below.refl _ _) _) _) _
  have hPB : PB w W0 n A ys.length c kd a b x p m Ap lp.length cp := by rw [← hW0]; exact PB.start w n A ys.length c kd a b x p m Ap lp.length cp
  have HB0 := Aside0.mk hB0
  have HP0 := Aside0.mk hPB
  have HN0 := Aside0.mk (hN.below hB0)
  have HPL := Aside0.mk hN.lt
  have HV0 := Aside0.mk (Kd.V_below (Kd.V_bound hV) hB0)
  have HVP := Aside0.mk (Kd.V_below (Kd.V_bound hp) hB0)
  have HRC := Aside0.mk (topiaryref08_Peek.calls (2 * ys.length + 2) (n : Int) _ A c ys a b x (peekF n bs a b x).1 (peekF n bs a b x).2 W0 (V_base HV0.out) (peek_f T hl a b x _ (Nat.le_refl _)))
  rw [peek_frame] at HRC
  have HPF : Aside0 (playF n bs kd a b x p m lp = bs) := ⟨by unfold playF; rw [if_neg h0, if_neg (fun h => h.elim h1 h2), if_neg h3, if_neg h4]⟩
  have k0 : (kd == 0) = false := beq_eq_false_iff_ne.2 h0
  have k1 : (kd == 1) = false := beq_eq_false_iff_ne.2 h1
  have k2 : (kd == 2) = false := beq_eq_false_iff_ne.2 h2
  have k3 : (kd == 3) = false := beq_eq_false_iff_ne.2 h3
  have k4 : (kd == 4) = false := beq_eq_false_iff_ne.2 h4
  clear h0 h1 h2 h3 h4
  clear hN T hV hQ hp hQp hlp hl hB0
  obtain ⟨p0, p1, a0, a1, a2, a3, a4, a5, a6, r0, r1, f0, f1⟩ := hPB.cells
  clear hPB
  go_enter Try.func18, Try.ntmps18
  go_wp2_with (fail)
  clear hW0
  refine HRC.out.mono ?_
  rintro e w1 ⟨v2, rfl, hv2, hb1⟩
  obtain ⟨A2, c2, rfl⟩ := Kd.V_slice hv2
  have HX1 := Aside0.mk (Kd.V_bound hv2)
  have HP1 := Aside0.mk (HP0.out.below hb1)
  have HN1 := Aside0.mk (HN0.out.below hb1)
  have HW1 := Aside0.mk ((Went.below HB0.out P).trans (Went.below hb1 P))
  have HV1 := Aside0.mk (Kd.V_below HV0.out hb1)
  clear hv2 hb1 p0 p1 a0 a1 a2 a3 a4 a5 a6 r0 r1 f0 f1 HRC
  obtain ⟨p0, p1, a0, a1, a2, a3, a4, a5, a6, r0, r1, f0, f1⟩ := HP1.out.cells
  have HCL := Aside0.mk (peek_calls HN1.out.i HN1.out.small a b x)
  rw [peek_frame] at HCL
  go_wp2_with (fail)
  clear p0 p1 a0 a1 a2 a3 a4 a5 a6 r0 r1 f0 f1
  refine HCL.out.mono ?_
  rintro e w3 ⟨v3, rfl, hr3, hb3⟩
  obtain ⟨A3, c3, rfl⟩ := Kd.R_slice hr3
  have cv1 := str_of (Kd.R_V hr3 (base' := 0))
  have cv2 := str_of (V_base (Kd.V_below HX1.out hb3))
  have HP3 := Aside0.mk (HP1.out.below hb3)
  have HN3 := Aside0.mk (HN1.out.below hb3)
  have HW3 := Aside0.mk (HW1.out.trans (Went.below hb3 P))
  have HV3 := Aside0.mk (Kd.V_below HV1.out hb3)
  have HR3 := Aside0.mk hr3
  have HB3 := Aside0.mk hb3
  have hll := (Kd.R_reads' hr3).2.2.2.1
  clear hr3 hb3 HCL HX1
  go_wp2_with (fail)
  have HLL := Aside0.mk hll
  have HRR := Aside0.mk (Kd.R_lower HR3.out (Nat.zero_le _))
  clear cv1 cv2 hll
  generalize hlg : (peekF n bs a b x).1.length = len at *
  obtain ⟨lst0, hl0⟩ : ∃ z, (peekF n bs a b x).1 = z := ⟨_, rfl⟩
  rw [hl0] at HR3 hlg
  go_loopw [30] (fun v wr => ∃ (i : Nat) (lst : List Int), v = .int .i64 (i : Int) ∧ i ≤ len ∧ lst.length = len ∧ Aside0 ((Kd.int .u8).R 5 wr w1.heap.size (fun _ => True) (.slice A3 len c3) lst) ∧ Aside0 (Kept w3 wr (fun k => w1.heap.size ≤ k))) (fun v _ => len - (intOf v).toNat)
  case atStart => exact ⟨0, lst0, rfl, Nat.zero_le _, hlg, HR3, ⟨Kept.refl _ _⟩⟩
  case round =>
    obtain ⟨i, lst, rfl, hil, hlen, HR, HK⟩ := hrel
    by_cases hlt : i < len
    · obtain ⟨gp, cap, he, hge, _, _⟩ := Kd.R_form HR.out (by rw [hlen]; exact Nat.lt_of_le_of_lt (Nat.zero_le _) hlt)
      injection he with he1 he2 he3
      subst he1
      clear he2 he3
      obtain ⟨cz, fz⟩ := Kd.R_celln 0 HR.out (i : Int) (Int.natCast_nonneg _) (Int.ofNat_lt.2 hlt)
      rw [Int.toNat_natCast] at cz fz
      have b1 : (0 ≤ (i : Int)) = True := eq_true (Int.natCast_nonneg _)
      have b2 : ((i : Int) < (len : Int)) = True := eq_true (Int.ofNat_lt.2 hlt)
      have b3 : (i < len) = True := eq_true hlt
      have hw3 := wrap_top (m := i) hlt HLL.out
      have HIL := Aside0.mk (And.intro hlt hlen)
      clear hlt hlen hil
      go_wp2
      go_roundw
      case rel => exact ⟨i + 1, lst.set i ((255 - rdOf 0 lst i) % 256), by rw [hw3]; rfl, HIL.out.1, by rw [List.length_set]; exact HIL.out.2, ⟨put_byte HR.out i _⟩, ⟨Kept.setCell HK.out (.inl hge) _⟩⟩
      case measure => rw [hw3]; exact Nat.sub_lt_sub_left HIL.out.1 (Nat.lt_succ_self _)
    · have b3 : (i < len) = False := eq_false hlt
      have hn2 : ∀ i, i < 3 → ¬ (w1.heap.size ≤ w.heap.size + i) := fun i _ hi => by have := HP1.out.size; omega
      have HP4 := Aside0.mk (HP3.out.kept HK.out hn2)
      have hpl : ∀ k, P k → ¬ w1.heap.size ≤ k := fun k hk => by have := HPL.out k hk; have := HP1.out.size; omega
      have HN4 := Aside0.mk (HN3.out.kept HK.out hpl)
      have HW4 : Aside0 (Went w P wr P) := ⟨⟨HW3.out.kept.then_ HK.out (fun k hk => .inr (by have := HP1.out.size; omega)), fun _ h => .inl h⟩⟩
      have HV4 := Aside0.mk (Kd.V_kept HV3.out HK.out (fun k hk => by have := hk.2; have := HP1.out.size; omega))
      obtain ⟨p0, p1, a0, a1, a2, a3, a4, a5, a6, r0, r1, f0, f1⟩ := HP4.out.cells
      clear hlt hil hlen HR HK hn2 hpl
      go_wp2
      refine bodyPost_ret (results_ct rfl _ _ (w.heap.size + 2) 41 #[.int .i64 (n : Int), .slice A ys.length c] (0, 0) _ rfl (HP4.out.ret _ _) Try.underlying41 rfl (by kernel_rfl)) rfl ?_
      refine ⟨.slice A ys.length c, ys, rfl, ?_⟩
      rw [HPF.out]
      exact play_end HN4.out HT.out (V_base HV4.out) (fun k hk => HAP.out.1 k hk.1) (fun k hk => by have := hk.2; omega) (fun k hk => by have := HPL.out k hk; omega) HW4.out (fun k hk => .inl hk.1) _ _
end Go.Proofs.Ytchepjbdaojidaa.PBags
namespace Go.Proofs.Ytchepjbdaojidaa.PBags
open Go.RowKit Go.Proofs.YtchepjbdaojidaaW.PrintWords Go.Proofs.YtchepjbdaojidaaW.PrintLast Go.Proofs.YtchepjbdaojidaaW.PrintMore
attribute [local go_sem] max2_int min2_int max_two min_two max_three min_three max_four min_four
set_option linter.unusedVariables false
set_option linter.unusedSimpArgs false
set_option maxHeartbeats 8000000 in
set_option maxRecDepth 100000 in
theorem play_k0 {w : World} {P Q Qp : Nat → Prop} {g n : Nat} {bs : List (List Frame)} {ys : List S45} (hN : Net w P g n bs) (T : Tie n bs ys) (A : Option Addr) (c : Nat) (hV : Kd.V k45 45 w 0 Q (.slice A ys.length c) ys) (hQ : ∀ k, Q k → ¬ P k)
    (a b x p m : Int) (Ap : Option Addr) (cp : Nat) (lp : List Int) (hp : Kd.V (Kd.int .u8) 5 w 0 Qp (.slice Ap lp.length cp) lp) (hQp : ∀ k, Qp k → ¬ P k) (hlp : lp.length ≤ 140737488351232) :
    Calls Try.prog 18 #[.pointer (some ⟨g, 0, none⟩), .agg #[.int .i64 (n : Int), .slice A ys.length c], .agg #[.int .i64 0, .int .i64 a, .int .i64 b, .int .i64 x, .int .i64 p, .int .i64 m, .slice Ap lp.length cp]] w fun e w' =>
      ∃ v ys', e = .returned (.tuple #[.agg #[.int .i64 (n : Int), v], .bool true]) ∧ ∃ P' Q', Net w' P' g n (playF n bs 0 a b x p m lp) ∧ Tie n (playF n bs 0 a b x p m lp) ys' ∧ Kd.V k45 45 w' 0 Q' v ys' ∧ (∀ k, Q' k → ¬ P' k) ∧ (∀ k, Q' k → Q k ∨ w.heap.size ≤ k) ∧ Went w P w' P' := by
  have hl : ys.length ≤ 1048576 := tie_small T hN.small hN.i.size.2.2
  have HT := Aside0.mk T
  have HL := Aside0.mk hl
  have HAP := Aside0.mk (And.intro hQ (And.intro hQp hlp))
  obtain ⟨W0, hW0⟩ : ∃ W0, ((w.alloc (.cells #[.int .i64 (n : Int), .slice A ys.length c] 41)).alloc (.cells #[.int .i64 0, .int .i64 a, .int .i64 b, .int .i64 x, .int .i64 p, .int .i64 m, .slice Ap lp.length cp] 37)).alloc (.cells #[.int .i64 0, .slice none 0 0] 41) = W0 := ⟨_, rfl⟩
  have hB0 : Below w.heap.size w W0 := by rw [← hW0]; exact below_alloc (below_alloc (below_alloc (Below.refl _ _) _) _) _
  have hPB : PB w W0 n A ys.length c 0 a b x p m Ap lp.length cp := by rw [← hW0]; exact PB.start w n A ys.length c 0 a b x p m Ap lp.length cp
  have HB0 := Aside0.mk hB0
  have HP0 := Aside0.mk hPB
  have HN0 := Aside0.mk (hN.below hB0)
  have HPL := Aside0.mk hN.lt
  have HV0 := Aside0.mk (Kd.V_below (Kd.V_bound hV) hB0)
  have HVP := Aside0.mk (Kd.V_below (Kd.V_bound hp) hB0)
  obtain ⟨ys1, hd1, hd2, _⟩ := send_f T hN.small hl a b lp (2 * ys.length + 2) (Nat.le_refl _)
  have HT1 := Aside0.mk hd2
  have HRC : ∀ W, Below W0.heap.size W0 W → Calls Try.prog 32 #[.agg #[.int .i64 (n : Int), .slice A ys.length c], .int .i64 a, .int .i64 b, .slice Ap lp.length cp] W fun e w' => ∃ v1, e = .returned (.tuple #[.agg #[.int .i64 (n : Int), v1], .int .i64 (putF n bs a b (lp, false)).1]) ∧ Kd.V k45 45 w' W.heap.size (fun k => (Q k ∧ k < w.heap.size) ∨ W.heap.size ≤ k) v1 ys1 ∧ Below W.heap.size W w' := fun W hW =>
    topiaryref08_Send.calls (2 * ys.length + 2) (n : Int) (fun k => Q k ∧ k < w.heap.size) A c ys a b Ap cp lp (n : Int) ys1 (putF n bs a b (lp, false)).1 W (V_base (Kd.V_below HV0.out hW)) (Kd.V_reads' (Kd.V_below HVP.out hW)).2.2 (Kd.V_reads' (Kd.V_below HVP.out hW)).2.1 hd1
  have HRCA := Aside0.mk HRC
  have HPF : Aside0 (playF n bs 0 a b x p m lp = (putF n bs a b (lp, false)).2) := ⟨rfl⟩
  have hclp := (Kd.V_reads' HVP.out).2.2
  have HCLP := Aside0.mk hclp
  clear hd1 hd2 HRC hclp
  clear hN T hV hQ hp hQp hlp hl hB0
  obtain ⟨p0, p1, a0, a1, a2, a3, a4, a5, a6, r0, r1, f0, f1⟩ := hPB.cells
  clear hPB
  go_enter Try.func18, Try.ntmps18
  go_wp2_with (first | ((with_reducible refine gate_dst (N := 35) rfl ?_); refine Kd.R_lit (Kd.int .u8) _ 5 ?hg (N := 35) ?hd (xs := ([] : List Int)) (inner := []) (ok := fun _ => True) (okp := fun _ => True) ?hr ?hp (fun _ hk => hk) trivial (Below.refl _ _) (Nat.le_refl _) (by simp) ?_; (case hd => rfl); (case hg => rfl); (case hr => first | (go_simp; done) | (go_simp; rfl)); (case hp => exact (Reps.none _ _)); intro v1 w1 ho1 hb1 hg_ hnew_; clear hg_ hnew_; have HO1 := Aside0.mk ho1; have HB1 := Aside0.mk hb1; have a6' := (hb1.cell (World.block_lt_of_cell? _ _ a6)).trans a6; clear ho1 hb1) | ((with_reducible refine gate_builtin (b := .append) (xs := #[.tmp 35, .tmp 37]) rfl ?_); at_builtin; refine Kd.R_append_rows (Kd.int .u8) (w0 := W0) W0.heap.size rfl (.tmp 35) (.tmp 37) 22 5 (.int .u8 0) 1 rfl Try.underlying22 info5 rfl (by decide) (by decide) v1 ([] : List Int) lp _ _ _ (fun _ => True) (fun _ => False) rfl rfl HO1.out (Kd.C_below HCLP.out HB1.out) (fun _ _ h => h) (fun _ h => h.elim) (fun _ _ => trivial) HB1.out HB1.out.size (room1 HAP.out.2.2) ?_; intro v2 w2 ho2 hb2 hg2 hat2; rw [List.nil_append] at ho2; obtain ⟨Ao, co, rfl⟩ := Kd.R_slice ho2; have HP2 := Aside0.mk (HP0.out.below hb2); have HO2 := Aside0.mk ho2; have HB2 := Aside0.mk hb2; clear p0 p1 a0 a1 a2 a3 a4 a5 a6 r0 r1 f0 f1 a6' HB1 HO1; clear ho2 hb2 hg2 hat2; obtain ⟨p0, p1, a0, a1, a2, a3, a4, a5, a6, r0, r1, f0, f1⟩ := HP2.out.cells)) 
  clear hW0
  clear p0 p1 a0 a1 a2 a3 a4 a5 a6 r0 r1 f0 f1
  refine (HRCA.out w2 HB2.out).mono ?_
  rintro e w3 ⟨v3, rfl, hv3, hb3⟩
  obtain ⟨A1, c1, rfl⟩ := Kd.V_slice hv3
  have HV3 := Aside0.mk (Kd.V_bound hv3)
  obtain ⟨w4, hw4⟩ : ∃ w4, w3.alloc (.cells #[.int .i64 (n : Int), .slice A1 ys1.length c1] 41) = w4 := ⟨_, rfl⟩
  have hb4 : Below w2.heap.size w2 w4 := by rw [← hw4]; exact below_alloc hb3 _
  have hs4 : w3.heap.size < w4.heap.size := by rw [← hw4, Mem.alloc_size]; exact Nat.lt_succ_self _
  have hs3 := hb3.size
  have HP4 := Aside0.mk (HP2.out.below hb4)
  have HN4 := Aside0.mk ((HN0.out.below HB2.out).below hb4)
  have HV4 : Aside0 (Kd.V k45 45 w4 0 (fun k => ((Q k ∧ k < w.heap.size) ∨ w2.heap.size ≤ k) ∧ k < w3.heap.size) (.slice A1 ys1.length c1) ys1) := ⟨by rw [← hw4]; exact V_base (Kd.V_alloc HV3.out _)⟩
  have HBZ : Aside0 (w4.heap[w3.heap.size]? = some (.cells #[.int .i64 (n : Int), .slice A1 ys1.length c1] 41 (0, 0))) := ⟨by rw [← hw4]; exact Mem.alloc_new _ _⟩
  have HO4 := Aside0.mk (Kd.R_below (Kd.R_mono (Kd.R_bound HO2.out) (ok' := fun k => W0.heap.size ≤ k ∧ k < w2.heap.size) (fun k hk => ⟨hk.2.1, hk.2.2.1⟩)) hb4)
  have HW4 := Aside0.mk (((Went.below HB0.out P).trans (Went.below HB2.out P)).trans (Went.below hb4 P))
  have HSZ := Aside0.mk (And.intro hs3 (And.intro hs4 (And.intro HB0.out.size HB2.out.size)))
  have HLL := Aside0.mk (Kd.R_reads' HO4.out).2.2.2.1
  have HSD := Aside0.mk (HN4.out.send a b Ao co lp (Kd.R_reads' HO4.out).2.2 (Kd.R_reads' HO4.out).2.1)
  obtain ⟨p0, p1, a0, a1, a2, a3, a4, a5, a6, r0, r1, f0, f1⟩ := HP4.out.cells
  clear hv3 hb3 hb4 hs4 hs3 HO2 HRCA HV3
  go_wp2_with (fail)
  clear hw4 p0 p1 a0 a1 a2 a3 a4 a5 a6 r0 r1 f0 f1
  refine HSD.out.mono ?_
  rintro e w5 ⟨P5, rfl, h5, hw5⟩
  have hn2 : ∀ i, i < 3 → ¬ P (w.heap.size + i) := fun i _ hi => by have := HPL.out _ hi; omega
  have hq : ∀ k, ((Q k ∧ k < w.heap.size) ∨ w2.heap.size ≤ k) ∧ k < w3.heap.size → ¬ P k := fun k hk hp => by have := HPL.out k hp; have := HSZ.out.2.2; have := HP0.out.size; rcases hk.1 with h_ | h_; exact HAP.out.1 k h_.1 hp; omega
  have HQ := Aside0.mk hq
  have HP5 := Aside0.mk (HP4.out.kept hw5.kept hn2)
  have HN5 := Aside0.mk h5
  have HW5 := Aside0.mk hw5
  have HBZ5 := Aside0.mk ((hw5.kept.2 w3.heap.size HSZ.out.2.1 (fun hi => by have := HPL.out _ hi; have := HSZ.out; omega)).trans HBZ.out)
  have HO5 := Aside0.mk (Kd.R_kept HO4.out hw5.kept (fun k hk hp => by have := HPL.out k hp; have := HP0.out.size; omega))
  have HV5 := Aside0.mk (V_went HV4.out hw5 hq)
  clear h5 hw5 hn2 hq HSD HO4 HV4
  go_wp2_with (fail)
  generalize hlg : lp.length = len at *
  go_loopw [12] (fun v wr => ∃ (i : Nat) (lst : List Int), v = .int .i64 (i : Int) ∧ i ≤ len ∧ lst.length = len ∧ Aside0 ((Kd.int .u8).R 5 wr W0.heap.size (fun k => W0.heap.size ≤ k ∧ k < w2.heap.size) (.slice Ao len co) lst) ∧ Aside0 (Kept w5 wr (fun k => W0.heap.size ≤ k ∧ k < w2.heap.size))) (fun v _ => len - (intOf v).toNat)
  case atStart => exact ⟨0, lp, rfl, Nat.zero_le _, hlg, HO5, ⟨Kept.refl _ _⟩⟩
  case round =>
    obtain ⟨i, lst, rfl, hil, hlen, HR, HK⟩ := hrel
    by_cases hlt : i < len
    · obtain ⟨gp, cap, he, _, _, _⟩ := Kd.R_form HR.out (by rw [hlen]; exact Nat.lt_of_le_of_lt (Nat.zero_le _) hlt)
      injection he with he1 he2 he3
      subst he1
      clear he2 he3
      obtain ⟨cz, fz⟩ := Kd.R_celln 0 HR.out (i : Int) (Int.natCast_nonneg _) (Int.ofNat_lt.2 hlt)
      rw [Int.toNat_natCast] at cz fz
      have hge := HR.out.1 gp rfl
      have HGE := Aside0.mk hge
      have b1 : (0 ≤ (i : Int)) = True := eq_true (Int.natCast_nonneg _)
      have b2 : ((i : Int) < (len : Int)) = True := eq_true (Int.ofNat_lt.2 hlt)
      have b3 : (i < len) = True := eq_true hlt
      have hw3 := wrap_top (m := i) hlt HLL.out
      have HIL := Aside0.mk (And.intro hlt hlen)
      clear hlt hlen hil hlg hge
      go_wp2
      go_roundw
      case rel => exact ⟨i + 1, lst.set i ((255 - rdOf 0 lst i) % 256), by rw [hw3]; rfl, HIL.out.1, by rw [List.length_set]; exact HIL.out.2, ⟨put_byte HR.out i _⟩, ⟨Kept.setCell HK.out (.inl HGE.out) _⟩⟩
      case measure => rw [hw3]; exact Nat.sub_lt_sub_left HIL.out.1 (Nat.lt_succ_self _)
    · have b3 : (i < len) = False := eq_false hlt
      have hn2 : ∀ i, i < 3 → ¬ (W0.heap.size ≤ w.heap.size + i ∧ w.heap.size + i < w2.heap.size) := fun i _ hi => by have := HP0.out.size; omega
      have HPr := Aside0.mk (HP5.out.kept HK.out hn2)
      have hpl : ∀ k, P5 k → ¬ (W0.heap.size ≤ k ∧ k < w2.heap.size) := fun k hk hi => by have := HP0.out.size; have := HSZ.out; rcases HW5.out.new k hk with h_ | h_; have := HPL.out k h_; omega; omega
      have HNr := Aside0.mk (HN5.out.kept HK.out hpl)
      have HWr : Aside0 (Went w P wr P5) := ⟨⟨(HW4.out.trans HW5.out).kept.then_ HK.out (fun k hk => .inr (by have := HP0.out.size; omega)), (HW4.out.trans HW5.out).new⟩⟩
      have HVr := Aside0.mk (Kd.V_kept HV5.out HK.out (fun k hk hi => by have := HP0.out.size; rcases hk.1 with h_ | h_; omega; omega))
      have HBZr := Aside0.mk ((HK.out.2 w3.heap.size (blk_lt HBZ5.out) (fun hi => by have := HSZ.out; omega)).trans HBZ5.out)
      obtain ⟨p0, p1, a0, a1, a2, a3, a4, a5, a6, r0, r1, f0, f1⟩ := HPr.out.cells
      have y0 := Mem.cell_of HBZr.out 0
      have y1 := Mem.cell_of HBZr.out 1
      clear hlt hil hlen HR HK hn2 hpl hlg
      go_wp2
      refine bodyPost_ret (results_ct rfl _ _ (w.heap.size + 2) 41 #[.int .i64 (n : Int), .slice A1 ys1.length c1] (0, 0) _ rfl (HPr.out.ret _ _) Try.underlying41 rfl (by kernel_rfl)) rfl ?_
      refine ⟨.slice A1 ys1.length c1, ys1, rfl, ?_⟩
      rw [HPF.out]
      refine play_end HNr.out HT1.out HVr.out (HW5.out.apart HQ.out (fun k hk => by have := HSZ.out; omega)) (fun k hk => ?_) (fun k hk => ?_) HWr.out (fun k hk => hk.1.elim (fun h_ => .inl h_.1) (fun h_ => .inr (by have := HP0.out.size; have := HSZ.out; omega))) _ _
      · have := HP0.out.size; have := HSZ.out; rcases hk.1 with h_ | h_ <;> omega
      · have := HP0.out.size; have := HSZ.out; rcases HW5.out.new k hk with h_ | h_; have := HPL.out k h_; omega; omega
end Go.Proofs.Ytchepjbdaojidaa.PBags
namespace Go.Proofs.Ytchepjbdaojidaa.PBags
open Go.RowKit Go.Proofs.YtchepjbdaojidaaW.PrintWords Go.Proofs.YtchepjbdaojidaaW.PrintLast Go.Proofs.YtchepjbdaojidaaW.PrintMore
set_option linter.unusedVariables false
theorem play_calls {w : World} {P Q Qp : Nat → Prop} {g n : Nat} {bs : List (List Frame)} {ys : List S45} (hN : Net w P g n bs) (T : Tie n bs ys) (A : Option Addr) (c : Nat) (hV : Kd.V k45 45 w 0 Q (.slice A ys.length c) ys) (hQ : ∀ k, Q k → ¬ P k)
    (kd a b x p m : Int) (Ap : Option Addr) (cp : Nat) (lp : List Int) (hp : Kd.V (Kd.int .u8) 5 w 0 Qp (.slice Ap lp.length cp) lp) (hQp : ∀ k, Qp k → ¬ P k) (hlp : lp.length ≤ 140737488351232) :
    Calls Try.prog 18 #[.pointer (some ⟨g, 0, none⟩), .agg #[.int .i64 (n : Int), .slice A ys.length c], .agg #[.int .i64 kd, .int .i64 a, .int .i64 b, .int .i64 x, .int .i64 p, .int .i64 m, .slice Ap lp.length cp]] w fun e w' =>
      ∃ v ys', e = .returned (.tuple #[.agg #[.int .i64 (n : Int), v], .bool true]) ∧ ∃ P' Q', Net w' P' g n (playF n bs kd a b x p m lp) ∧ Tie n (playF n bs kd a b x p m lp) ys' ∧ Kd.V k45 45 w' 0 Q' v ys' ∧ (∀ k, Q' k → ¬ P' k) ∧ (∀ k, Q' k → Q k ∨ w.heap.size ≤ k) ∧ Went w P w' P' := by
  by_cases h0 : kd = 0
  · subst h0; exact play_k0 hN T A c hV hQ a b x p m Ap cp lp hp hQp hlp
  by_cases h1 : kd = 1
  · subst h1; exact play_k1 hN T A c hV hQ a b x p m Ap cp lp hp hQp hlp
  by_cases h2 : kd = 2
  · subst h2; exact play_k2 hN T A c hV hQ a b x p m Ap cp lp hp hQp hlp
  by_cases h3 : kd = 3
  · subst h3; exact play_k3 hN T A c hV hQ a b x p m Ap cp lp hp hQp hlp
  by_cases h4 : kd = 4
  · subst h4; exact play_k4 hN T A c hV hQ a b x p m Ap cp lp hp hQp hlp
  exact play_k5 hN T A c hV hQ a b x p m Ap cp lp hp hQp hlp kd h0 h1 h2 h3 h4
end Go.Proofs.Ytchepjbdaojidaa.PBags
