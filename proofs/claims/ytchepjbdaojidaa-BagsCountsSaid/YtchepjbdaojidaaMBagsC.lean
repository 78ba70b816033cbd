/- A net of new blocks alone, in the midst of a law; what was sent and doubled has come, was lost, or waits. -/
import Derived.Test.YtchepjbdaojidaaMBagsHc
import Derived.Test.YtchepjbdaojidaaMBagsHb
import Derived.Lib.SlBytesConst
import Derived.Deep.DeepCutAuto
import Derived.Deep.CutBlock
namespace Go.Proofs.Ytchepjbdaojidaa.PBags
open Go.RowKit Go.Proofs.YtchepjbdaojidaaW.PrintWords Go.Proofs.YtchepjbdaojidaaW.PrintLast Go.Proofs.YtchepjbdaojidaaW.PrintMore
attribute [local go_sem] max2_int min2_int max_two min_two max_three min_three max_four min_four
set_option linter.unusedVariables false
set_option linter.unusedSimpArgs false

theorem lose_code {n : Nat} {bs : List (List Frame)} {a b x : Int} : (loseF n bs a b x).1 = frameF n bs a b x := by
  unfold loseF
  split
  · rename_i h; rw [h]
  · rfl
theorem Net.lose2 {w : World} {P : Nat → Prop} {g n : Nat} {bs : List (List Frame)} (h : Net w P g n bs) (a b x : Int) :
    Calls Try.prog 17 #[.pointer (some ⟨g, 0, none⟩), .int .i64 a, .int .i64 b, .int .i64 x] w fun e w' => ∃ P', e = .returned (.int .i64 (frameF n bs a b x)) ∧ Net w' P' g n (loseF n bs a b x).2 ∧ Went w P w' P' := by
  have h_ := h.lose a b x
  rw [lose_code] at h_
  exact h_.mono (fun e w' h => ⟨P, h.1, h.2.1, ⟨h.2.2, fun _ hk => .inl hk⟩⟩)
/-- The bags behind a call. -/
def playF (n : Nat) (bs : List (List Frame)) (kd a b x p m : Int) (l : List Int) : List (List Frame) :=
  if kd = 0 then (putF n bs a b (l, false)).2 else if kd = 1 ∨ kd = 2 then (loseF n bs a b x).2 else if kd = 3 then (doubleF n bs a b x).2 else if kd = 4 then (spoilF n bs a b x p m).2 else bs
/-- The three boxes of play: the document's net, the call, the result. -/
structure PB (w W : World) (n : Nat) (A : Option Addr) (len c : Nat) (kd a b x p m : Int) (Ap : Option Addr) (lp cp : Nat) : Prop where
  net : W.heap[w.heap.size]? = some (.cells #[.int .i64 (n : Int), .slice A len c] 41 (0, 0))
  act : W.heap[w.heap.size + 1]? = some (.cells #[.int .i64 kd, .int .i64 a, .int .i64 b, .int .i64 x, .int .i64 p, .int .i64 m, .slice Ap lp cp] 37 (0, 0))
  res : W.heap[w.heap.size + 2]? = some (.cells #[.int .i64 0, .slice none 0 0] 41 (0, 0))
  size : w.heap.size + 3 ≤ W.heap.size
section
variable {w W W1 : World} {n len c lp cp : Nat} {A Ap : Option Addr} {kd a b x p m : Int}
theorem PB.start (w : World) (n : Nat) (A : Option Addr) (len c : Nat) (kd a b x p m : Int) (Ap : Option Addr) (lp cp : Nat) :
    PB w (((w.alloc (.cells #[.int .i64 (n : Int), .slice A len c] 41)).alloc (.cells #[.int .i64 kd, .int .i64 a, .int .i64 b, .int .i64 x, .int .i64 p, .int .i64 m, .slice Ap lp cp] 37)).alloc (.cells #[.int .i64 0, .slice none 0 0] 41)) n A len c kd a b x p m Ap lp cp :=
  ⟨Mem.alloc_old (Mem.alloc_old (Mem.alloc_new _ _) _) _, Mem.alloc_old (Mem.alloc_new_at _ _ _ (by rw [Mem.alloc_size])) _, Mem.alloc_new_at _ _ _ (by rw [Mem.alloc_size, Mem.alloc_size]), by rw [Mem.alloc_size, Mem.alloc_size, Mem.alloc_size]; exact Nat.le_refl _⟩
theorem PB.below (h : PB w W n A len c kd a b x p m Ap lp cp) (hb : Below W.heap.size W W1) : PB w W1 n A len c kd a b x p m Ap lp cp := by
  have hs := h.size
  exact ⟨(hb.block _ (by omega)).trans h.net, (hb.block _ (by omega)).trans h.act, (hb.block _ (by omega)).trans h.res, Nat.le_trans hs hb.size⟩
theorem PB.kept (h : PB w W n A len c kd a b x p m Ap lp cp) {S : Nat → Prop} (hk : Kept W W1 S) (hS : ∀ i, i < 3 → ¬ S (w.heap.size + i)) : PB w W1 n A len c kd a b x p m Ap lp cp := by
  have hs := h.size
  exact ⟨(hk.2 _ (by omega) (hS 0 (by decide))).trans h.net, (hk.2 _ (by omega) (hS 1 (by decide))).trans h.act, (hk.2 _ (by omega) (hS 2 (by decide))).trans h.res, Nat.le_trans hs hk.1⟩
theorem PB.cells (h : PB w W n A len c kd a b x p m Ap lp cp) : W.cell? ⟨w.heap.size, 0, none⟩ = some (.int .i64 (n : Int)) ∧ W.cell? ⟨w.heap.size, 1, none⟩ = some (.slice A len c) ∧
    W.cell? ⟨w.heap.size + 1, 0, none⟩ = some (.int .i64 kd) ∧ W.cell? ⟨w.heap.size + 1, 1, none⟩ = some (.int .i64 a) ∧ W.cell? ⟨w.heap.size + 1, 2, none⟩ = some (.int .i64 b) ∧ W.cell? ⟨w.heap.size + 1, 3, none⟩ = some (.int .i64 x) ∧
    W.cell? ⟨w.heap.size + 1, 4, none⟩ = some (.int .i64 p) ∧ W.cell? ⟨w.heap.size + 1, 5, none⟩ = some (.int .i64 m) ∧ W.cell? ⟨w.heap.size + 1, 6, none⟩ = some (.slice Ap lp cp) ∧
    W.cell? ⟨w.heap.size + 2, 0, none⟩ = some (.int .i64 0) ∧ W.cell? ⟨w.heap.size + 2, 1, none⟩ = some (.slice none 0 0) ∧ W.frozen? ⟨w.heap.size + 2, 0, none⟩ = false ∧ W.frozen? ⟨w.heap.size + 2, 1, none⟩ = false :=
  ⟨Mem.cell_of h.net 0, Mem.cell_of h.net 1, Mem.cell_of h.act 0, Mem.cell_of h.act 1, Mem.cell_of h.act 2, Mem.cell_of h.act 3, Mem.cell_of h.act 4, Mem.cell_of h.act 5, Mem.cell_of h.act 6, Mem.cell_of h.res 0, Mem.cell_of h.res 1, Mem.free_of h.res 0, Mem.free_of h.res 1⟩
theorem PB.ret (h : PB w W n A len c kd a b x p m Ap lp cp) (v0 v1 : Value) : ((W.setCell ⟨w.heap.size + 2, 0, none⟩ v0).setCell ⟨w.heap.size + 2, 1, none⟩ v1).heap[w.heap.size + 2]? = some (.cells #[v0, v1] 41 (0, 0)) := ret41 h.res v0 v1
end
theorem str_of {W : World} {ok : Nat → Prop} {A : Option Addr} {c : Nat} {l : List Int} (h : Kd.V (Kd.int .u8) 5 W 0 ok (.slice A l.length c) l) : Sem.run Try.prog (convert 22 9 (.slice A l.length c)) W = .ok (.string (strOfNums l)) W :=
  Kd.C_string (dst := 9) (c := c) Try.underlying22 Try.underlying5 Try.underlying9 (Kd.V_reads' h).2.2
theorem str_far {W : World} {A : Option Addr} {b c : Nat} {l : List Int} (h : Kd.V (Kd.int .u8) 5 W 0 (fun k => k ≠ b) (.slice A l.length c) l) (u v : Value) :
    Sem.run Try.prog (convert 22 9 (.slice A l.length c)) ((W.setCell ⟨b, 0, none⟩ u).setCell ⟨b, 1, none⟩ v) = .ok (.string (strOfNums l)) ((W.setCell ⟨b, 0, none⟩ u).setCell ⟨b, 1, none⟩ v) :=
  str_of (Kd.V_far (p := ⟨b, 1, none⟩) (Kd.V_far (p := ⟨b, 0, none⟩) h (fun _ hk => hk) u) (fun _ hk => hk) v)
theorem wrap_top {m L : Nat} (h : m < L) (hL : L ≤ 9223372036854775807) : wrap64 ((m : Int) + 1) = (m : Int) + 1 := by unfold wrap64; omega
theorem put_byte {W : World} {base gp len c : Nat} {ok : Nat → Prop} {lst : List Int} (h : (Kd.int .u8).R 5 W base ok (.slice (some ⟨gp, 0, none⟩) len c) lst) (i : Nat) (x : Int) : (Kd.int .u8).R 5 (W.setCell ⟨gp, i, none⟩ (.int .u8 x)) base ok (.slice (some ⟨gp, 0, none⟩) len c) (lst.set i x) := by
  have := Kd.R_putn h (i : Int) x
  rw [Int.toNat_natCast] at this
  exact this
theorem Net.kept {w w' : World} {P S : Nat → Prop} {g n : Nat} {bs : List (List Frame)} (h : Net w P g n bs) (hk : Kept w w' S) (hS : ∀ k, P k → ¬ S k) : Net w' P g n bs := by
  refine ⟨?_, h.small, fun k hp => Nat.lt_of_lt_of_le (h.lt k hp) hk.1⟩
  obtain ⟨A, c, h1, h2, h3, h4, h5, h6, h7⟩ := h.i
  exact ⟨A, c, (hk.2 g (h.lt g h3) (hS g h3)).trans h1, h2, h3, h4, h5, h6, Kd.S_step h7 (fun k hp hl => hk.2 k hl (hS k hp.1))⟩
theorem room1 {l : List Int} (h : l.length ≤ 140737488351232) : (([] : List Int).length + l.length) * 1 ≤ 140737488355328 := by rw [List.length_nil]; omega
/-- The result is laid: the net and the document's net stay. -/
theorem play_end {w W : World} {P P' Q' : Nat → Prop} {g n : Nat} {bs' : List (List Frame)} {ys' : List S45} {v : Value} (hN : Net W P' g n bs') (hT : Tie n bs' ys') (hV : Kd.V k45 45 W 0 Q' v ys') (hQ : ∀ k, Q' k → ¬ P' k) (hQ2 : ∀ k, Q' k → k ≠ w.heap.size + 2) (hP2 : ∀ k, P' k → k ≠ w.heap.size + 2) (hW : Went w P W P') {Q : Nat → Prop} (hQ3 : ∀ k, Q' k → Q k ∨ w.heap.size ≤ k) (v0 v1 : Value) :
    ∃ P' Q', Net ((W.setCell ⟨w.heap.size + 2, 0, none⟩ v0).setCell ⟨w.heap.size + 2, 1, none⟩ v1) P' g n bs' ∧ Tie n bs' ys' ∧ Kd.V k45 45 ((W.setCell ⟨w.heap.size + 2, 0, none⟩ v0).setCell ⟨w.heap.size + 2, 1, none⟩ v1) 0 Q' v ys' ∧ (∀ k, Q' k → ¬ P' k) ∧ (∀ k, Q' k → Q k ∨ w.heap.size ≤ k) ∧ Went w P ((W.setCell ⟨w.heap.size + 2, 0, none⟩ v0).setCell ⟨w.heap.size + 2, 1, none⟩ v1) P' := by
  have e : ∀ k, k ≠ w.heap.size + 2 → ((W.setCell ⟨w.heap.size + 2, 0, none⟩ v0).setCell ⟨w.heap.size + 2, 1, none⟩ v1).heap[k]? = W.heap[k]? := fun k hk => (Mem.set_other _ _ _ _ hk).trans (Mem.set_other _ _ _ _ hk)
  have es : ((W.setCell ⟨w.heap.size + 2, 0, none⟩ v0).setCell ⟨w.heap.size + 2, 1, none⟩ v1).heap.size = W.heap.size := by rw [Mem.set_size, Mem.set_size]
  refine ⟨P', Q', ⟨?_, hN.small, fun k hk => by rw [es]; exact hN.lt k hk⟩, hT, Kd.V_step hV (fun k hk _ => e k (hQ2 k hk)), hQ, hQ3, ⟨Kept.setCell (Kept.setCell hW.kept (.inr (Nat.le_add_right _ 2)) _) (.inr (Nat.le_add_right _ 2)) _, hW.new⟩⟩
  obtain ⟨A, c, h1, h2, h3, h4, h5, h6, h7⟩ := hN.i
  exact ⟨A, c, (e g (hP2 g h3)).trans h1, h2, h3, h4, h5, h6, Kd.S_step h7 (fun k hk _ => e k (hP2 k hk.1))⟩
end Go.Proofs.Ytchepjbdaojidaa.PBags
namespace Go.Proofs.Ytchepjbdaojidaa.PBags
open Go.RowKit Go.Proofs.YtchepjbdaojidaaW.PrintWords Go.Proofs.YtchepjbdaojidaaW.PrintLast Go.Proofs.YtchepjbdaojidaaW.PrintMore
attribute [local go_sem] max2_int min2_int max_two min_two max_three min_three max_four min_four
set_option linter.unusedVariables false
set_option linter.unusedSimpArgs false
theorem Net.clone {w : World} {P : Nat → Prop} {g n : Nat} {bs : List (List Frame)} (h : Net w P g n bs) :
    Calls Try.prog 26 #[.pointer (some ⟨g, 0, none⟩)] w fun e w' => ∃ g2 P2, e = .returned (.pointer (some ⟨g2, 0, none⟩)) ∧ Net w' P2 g2 n bs ∧ (∀ k, P2 k → w.heap.size ≤ k) ∧ Below w.heap.size w w' :=
  (clone_calls h.i h.small).mono fun e w' ⟨g2, he, h1, h2⟩ => ⟨g2, _, he, Net.of h1 h.small, fun k hk => hk.1, h2⟩
/-- A net of no blocks that were: what is told of it leaves all that was. -/
theorem Went.fresh {w w' : World} {P' : Nat → Prop} (h : Went w (fun _ => False) w' P') : (∀ k, P' k → w.heap.size ≤ k) ∧ Below w.heap.size w w' :=
  ⟨fun k hk => (h.new k hk).elim False.elim id, h.kept.to_below (fun _ h => h.elim)⟩
/-- A literal's bytes. -/
theorem const_C (w : World) (l : List Int) (fr : Nat × Nat) (hl : l.length ≤ 1000) : Kd.C (Kd.int .u8) (w.alloc (.cells (l.map (Value.int .u8)).toArray 5 fr)) (some ⟨w.heap.size, 0, none⟩) l.length l := by
  refine ⟨rfl, by omega, fun _ => ⟨_, rfl, fun j p hj => ⟨[.int .u8 p], rfl, rfl, fun i u hi => ?_⟩⟩⟩
  have h0 : i = 0 := by
    have := (List.getElem?_eq_some_iff.1 hi).1
    simpa using this
  subst h0
  have hu : Value.int .u8 p = u := Option.some.inj hi
  subst hu
  rw [add_at, Nat.zero_add]
  show (w.alloc _).cell? ⟨w.heap.size, j * 1 + 0, none⟩ = _
  rw [Mem.cell_of (Mem.alloc_new w _), Nat.mul_one, Nat.add_zero, List.getElem?_toArray, List.getElem?_map, hj]
  rfl
set_option maxHeartbeats 8000000 in
set_option maxRecDepth 100000 in
theorem awake_calls (w : World) : Calls Try.prog 13 #[] w fun e w' => e = .returned (.bool true) ∧ Below w.heap.size w w' := by
  have HNW := Aside0.mk (Net.new w 2 (by decide) (by decide))
  go_enter Try.func13, Try.ntmps13
  go_wp2_with (fail)
  refine HNW.out.mono ?_
  rintro e w1 ⟨g, P1, rfl, hN1, hW1⟩
  have HN1 := Aside0.mk hN1
  have HW1 := Aside0.mk hW1
  clear hN1 hW1 HNW
  have kc := fun (w : World) (C : Array Value) (n c : Nat) => Lib.run_convert_bytes_const (P := Try.prog) w 22 5 C n c Try.underlying22 Try.underlying5
  have HBL := Aside0.mk (below_alloc (Below.refl w1.heap.size w1) (.cells #[.int .u8 97] 5 (1, 2)))
  have HN2 := Aside0.mk (HN1.out.below HBL.out)
  have HCC := Aside0.mk (const_C w1 [97] (1, 2) (by decide))
  have HS1 := Aside0.mk (HN2.out.send 0 1 _ 1 [97] HCC.out (Nat.le_refl _))
  rw [show (putF 2 (List.replicate (2 * 2) []) 0 1 ([97], false)).1 = 0 from by decide] at HS1
  go_wp2_with (fail)
  refine HS1.out.mono ?_
  rintro e w3 ⟨P3, rfl, hN3, hW3⟩
  have HN3 := Aside0.mk hN3
  have HW3 := Aside0.mk hW3
  have HS2 := Aside0.mk (HN3.out.send 0 0 none 0 [] (Kd.V_reads' (Kd.V_nil (Kd.int .u8) 5 w3 0 (fun _ => True))).2.2 (Nat.le_refl _))
  rw [show (putF 2 (putF 2 (List.replicate (2 * 2) []) 0 1 ([97], false)).2 0 0 ([], false)).1 = 7 from by decide] at HS2
  clear hN3 hW3 HS1 kc
  go_wp2_with (fail)
  refine HS2.out.mono ?_
  rintro e w4 ⟨P4, rfl, hN4, hW4⟩
  have HN4 := Aside0.mk hN4
  have HW4 := Aside0.mk hW4
  have HS3 := Aside0.mk (wait_calls HN4.out.i 0 1)
  rw [show waitF 2 (putF 2 (putF 2 (List.replicate (2 * 2) []) 0 1 ([97], false)).2 0 0 ([], false)).2 0 1 = 1 from by decide] at HS3
  clear hN4 hW4 HS2
  go_wp2_with (fail)
  refine HS3.out.mono ?_
  rintro e w5 ⟨rfl, ⟨nd, rfl⟩⟩
  go_wp2
  go_ret
  exact ⟨rfl, ((((HW1.out.trans (Went.below HBL.out _)).trans HW3.out).trans HW4.out).kept.below (pw_below_drewN (Below.refl _ _) nd)).to_below (fun _ h => h.elim)⟩
end Go.Proofs.Ytchepjbdaojidaa.PBags
namespace Go.Proofs.Ytchepjbdaojidaa.PBags
open Go.RowKit Go.Proofs.YtchepjbdaojidaaW.PrintWords Go.Proofs.YtchepjbdaojidaaW.PrintLast Go.Proofs.YtchepjbdaojidaaW.PrintMore
set_option linter.unusedVariables false
/-- A call that comes in. -/
structure Cmd where
  kd : Int
  a : Int
  b : Int
  x : Int
  p : Int
  m : Int
  l : List Int
def zCmd : Cmd := ⟨0, 0, 0, 0, 0, 0, []⟩
abbrev kCmd0 : Kd (Int × Int × Int × Int × Int × Int × List Int) := Kd.pair (Kd.int .i64) (Kd.pair (Kd.int .i64) (Kd.pair (Kd.int .i64) (Kd.pair (Kd.int .i64) (Kd.pair (Kd.int .i64) (Kd.pair (Kd.int .i64) (Kd.slice 5 (Kd.int .u8)))))))
def Cmd.parts (x : Cmd) : Int × Int × Int × Int × Int × Int × List Int := (x.kd, x.a, x.b, x.x, x.p, x.m, x.l)
def kCmd : Kd Cmd := Kd.iso kCmd0 Cmd.parts
theorem kCmd_open {w : World} {x : Cmd} {cs : List Value} (h : kCmd.K w x cs) : ∃ A c, cs = [.int .i64 x.kd, .int .i64 x.a, .int .i64 x.b, .int .i64 x.x, .int .i64 x.p, .int .i64 x.m, .slice A x.l.length c] ∧ x.l.length ≤ c ∧ (Kd.int .u8).C w A x.l.length x.l := by
  obtain ⟨_, _, rfl, rfl, ⟨_, _, rfl, rfl, ⟨_, _, rfl, rfl, ⟨_, _, rfl, rfl, ⟨_, _, rfl, rfl, ⟨_, _, rfl, rfl, ⟨A, c, rfl, l, g⟩⟩⟩⟩⟩⟩⟩ := h
  exact ⟨A, c, rfl, l, g⟩
theorem heap_cmd : Kd.Heap kCmd := Kd.heap_iso _ (by repeat (first | exact Kd.heap_slice 5 (by first | exact Kd.heap_scalar | exact Kd.heap_int _) | refine Kd.heap_pair ?_ ?_ | exact Kd.heap_scalar | exact Kd.heap_int _))
theorem kCmd_openF {W : World} {ok : Nat → Prop} {x : Cmd} {cs : List Value} (h : Kd.FK kCmd W ok x cs) : ∃ A c, cs = [.int .i64 x.kd, .int .i64 x.a, .int .i64 x.b, .int .i64 x.x, .int .i64 x.p, .int .i64 x.m, .slice A x.l.length c] ∧ Kd.V (Kd.int .u8) 5 W 0 ok (.slice A x.l.length c) x.l := by
  obtain ⟨A, c, rfl, l, _⟩ := kCmd_open (Kd.FK_now h)
  refine ⟨A, c, rfl, Kd.V_mk l (fun W' hW => ?_)⟩
  obtain ⟨A_, c_, he, l_, g_⟩ := kCmd_open (h W' hW)
  injection (Option.some.inj (show some (Value.slice A x.l.length c) = some (Value.slice A_ x.l.length c_) from congrArg (fun l => l[6]?) he)) with ha_ _ _
  rw [ha_]
  exact g_
/-- A call of those that came in. -/
theorem cmd_at {W : World} {ok : Nat → Prop} {A : Option Addr} {c : Nat} {l : List Cmd} (h : Kd.V kCmd 37 W 0 ok (.slice A l.length c) l) (i : Nat) (hi : i < l.length) :
    ∃ ad Ai ci, A = some ad ∧ W.cell? (ad.add (i * 7)) = some (.int .i64 (l.getD i zCmd).kd) ∧ W.cell? ⟨(ad.add (i * 7)).block, (ad.add (i * 7)).off + 1, none⟩ = some (.int .i64 (l.getD i zCmd).a) ∧ W.cell? ⟨(ad.add (i * 7)).block, (ad.add (i * 7)).off + 2, none⟩ = some (.int .i64 (l.getD i zCmd).b) ∧
      W.cell? ⟨(ad.add (i * 7)).block, (ad.add (i * 7)).off + 3, none⟩ = some (.int .i64 (l.getD i zCmd).x) ∧ W.cell? ⟨(ad.add (i * 7)).block, (ad.add (i * 7)).off + 4, none⟩ = some (.int .i64 (l.getD i zCmd).p) ∧ W.cell? ⟨(ad.add (i * 7)).block, (ad.add (i * 7)).off + 5, none⟩ = some (.int .i64 (l.getD i zCmd).m) ∧
      W.cell? ⟨(ad.add (i * 7)).block, (ad.add (i * 7)).off + 6, none⟩ = some (.slice Ai (l.getD i zCmd).l.length ci) ∧ Kd.V (Kd.int .u8) 5 W 0 ok (.slice Ai (l.getD i zCmd).l.length ci) (l.getD i zCmd).l := by
  obtain ⟨ad, cs, e, _, hFK, hc, _⟩ := Kd.F_get (Kd.V_F h) zCmd (i : Int) (Int.natCast_nonneg _) (Int.ofNat_lt.2 hi)
  rw [Int.toNat_natCast] at hFK hc
  have hc' : ∀ j u, cs[j]? = some u → W.cell? (ad.add (i * 7 + j)) = some u := hc
  obtain ⟨Ai, ci, rfl, hv⟩ := kCmd_openF hFK
  exact ⟨ad, Ai, ci, e, hc' 0 _ rfl, by rw [← add_field _ _ 1 (by omega)]; exact hc' 1 _ rfl, by rw [← add_field _ _ 2 (by omega)]; exact hc' 2 _ rfl, by rw [← add_field _ _ 3 (by omega)]; exact hc' 3 _ rfl, by rw [← add_field _ _ 4 (by omega)]; exact hc' 4 _ rfl, by rw [← add_field _ _ 5 (by omega)]; exact hc' 5 _ rfl, by rw [← add_field _ _ 6 (by omega)]; exact hc' 6 _ rfl, hv⟩
/-- A call of those that came in, in any world behind. -/
theorem cmd_came {W : World} {A : Option Addr} {c : Nat} {l : List Cmd} (h : Kd.V kCmd 37 W 0 (fun k => k < W.heap.size) (.slice A l.length c) l) (i : Nat) (hi : i < l.length) :
    ∃ ad Ai ci, A = some ad ∧ ∀ W', Below W.heap.size W W' → ((W'.cell? (ad.add (i * 7)) = some (.int .i64 (l.getD i zCmd).kd) ∧ W'.cell? ⟨(ad.add (i * 7)).block, (ad.add (i * 7)).off + 1, none⟩ = some (.int .i64 (l.getD i zCmd).a) ∧ W'.cell? ⟨(ad.add (i * 7)).block, (ad.add (i * 7)).off + 2, none⟩ = some (.int .i64 (l.getD i zCmd).b) ∧
      W'.cell? ⟨(ad.add (i * 7)).block, (ad.add (i * 7)).off + 3, none⟩ = some (.int .i64 (l.getD i zCmd).x) ∧ W'.cell? ⟨(ad.add (i * 7)).block, (ad.add (i * 7)).off + 4, none⟩ = some (.int .i64 (l.getD i zCmd).p) ∧ W'.cell? ⟨(ad.add (i * 7)).block, (ad.add (i * 7)).off + 5, none⟩ = some (.int .i64 (l.getD i zCmd).m) ∧
      W'.cell? ⟨(ad.add (i * 7)).block, (ad.add (i * 7)).off + 6, none⟩ = some (.slice Ai (l.getD i zCmd).l.length ci)) ∧ Kd.V (Kd.int .u8) 5 W' 0 (fun k => k < W.heap.size) (.slice Ai (l.getD i zCmd).l.length ci) (l.getD i zCmd).l) := by
  obtain ⟨ad, Ai, ci, e, h0, h1, h2, h3, h4, h5, h6, hv⟩ := cmd_at h i hi
  exact ⟨ad, Ai, ci, e, fun W' hb => ⟨⟨pw_cell_below hb h0, pw_cell_below hb h1, pw_cell_below hb h2, pw_cell_below hb h3, pw_cell_below hb h4, pw_cell_below hb h5, pw_cell_below hb h6⟩, Kd.V_below hv hb⟩⟩
theorem cmd_ok {l : List Cmd} (h : ∀ x ∈ l, x.l.length ≤ 140737488351232) (i : Nat) (hi : i < l.length) : (l.getD i zCmd).l.length ≤ 140737488351232 := by
  rw [List.getD_eq_getElem?_getD, List.getElem?_eq_getElem hi]
  exact h _ (List.getElem_mem hi)
end Go.Proofs.Ytchepjbdaojidaa.PBags
namespace Go.Proofs.Ytchepjbdaojidaa.PBags
open Go.RowKit Go.Proofs.YtchepjbdaojidaaW.PrintWords Go.Proofs.YtchepjbdaojidaaW.PrintLast Go.Proofs.YtchepjbdaojidaaW.PrintMore
attribute [local go_sem] max2_int min2_int max_two min_two max_three min_three max_four min_four
set_option linter.unusedVariables false
set_option linter.unusedSimpArgs false

/-- A net of new blocks alone: what came in stays. -/
structure Fresh (W0 W : World) (P : Nat → Prop) (g n : Nat) (bs : List (List Frame)) : Prop where
  net : Net W P g n bs
  went : Went W0 (fun _ => False) W P
theorem Fresh.next {W0 W W' : World} {P P' : Nat → Prop} {g n : Nat} {bs bs' : List (List Frame)} (h : Fresh W0 W P g n bs) (hN : Net W' P' g n bs') (hw : Went W P W' P') : Fresh W0 W' P' g n bs' := ⟨hN, h.went.trans hw⟩
theorem Fresh.on {W0 W W' : World} {P : Nat → Prop} {g n : Nat} {bs : List (List Frame)} (h : Fresh W0 W P g n bs) (hb : Below W.heap.size W W') : Fresh W0 W' P g n bs := ⟨h.net.below hb, h.went.trans (Went.below hb P)⟩
theorem Fresh.below {W0 W : World} {P : Nat → Prop} {g n : Nat} {bs : List (List Frame)} (h : Fresh W0 W P g n bs) : Below W0.heap.size W0 W := h.went.fresh.2
theorem Fresh.bytes {W0 W : World} {P : Nat → Prop} {g n : Nat} {bs : List (List Frame)} (h : Fresh W0 W P g n bs) {A : Option Addr} {c : Nat} {l : List Int} (hv : Kd.V (Kd.int .u8) 5 W0 0 (fun k => k < W0.heap.size) (.slice A l.length c) l) : Kd.C (Kd.int .u8) W A l.length l :=
  (Kd.V_reads' (Kd.V_below hv h.below)).2.2
theorem Fresh.send {W0 W : World} {P : Nat → Prop} {g n : Nat} {bs : List (List Frame)} (h : Fresh W0 W P g n bs) {A : Option Addr} {c : Nat} {l : List Int} (hv : Kd.V (Kd.int .u8) 5 W0 0 (fun k => k < W0.heap.size) (.slice A l.length c) l) (hc : l.length ≤ c) (a b : Int) {r : Int} {bs' : List (List Frame)} (hp : putF n bs a b (l, false) = (r, bs')) :
    Calls Try.prog 11 #[.pointer (some ⟨g, 0, none⟩), .int .i64 a, .int .i64 b, .slice A l.length c] W fun e w' => e = .returned (.int .i64 r) ∧ ∃ P', Fresh W0 w' P' g n bs' := by
  have := h.net.send a b A c l (h.bytes hv) hc
  rw [hp] at this
  exact this.mono (fun e w' ⟨P', he, h1, h2⟩ => ⟨he, P', h.next h1 h2⟩)
theorem Fresh.double {W0 W : World} {P : Nat → Prop} {g n : Nat} {bs : List (List Frame)} (h : Fresh W0 W P g n bs) (a b x : Int) {r : Int} {bs' : List (List Frame)} (hp : doubleF n bs a b x = (r, bs')) :
    Calls Try.prog 14 #[.pointer (some ⟨g, 0, none⟩), .int .i64 a, .int .i64 b, .int .i64 x] W fun e w' => e = .returned (.int .i64 r) ∧ ∃ P', Fresh W0 w' P' g n bs' := by
  have := h.net.double a b x
  rw [hp] at this
  exact this.mono (fun e w' ⟨P', he, h1, h2⟩ => ⟨he, P', h.next h1 h2⟩)
theorem Fresh.len {W0 W : World} {P : Nat → Prop} {g n : Nat} {bs : List (List Frame)} (h : Fresh W0 W P g n bs) {r : Nat} (hr : countF bs (n * n) = r) :
    Calls Try.prog 12 #[.pointer (some ⟨g, 0, none⟩)] W fun e w' => e = .returned (.int .i64 (r : Int)) ∧ Fresh W0 w' P g n bs := by
  have := h.net.len
  rw [hr] at this
  exact this.mono (fun e w' ⟨he, h1⟩ => ⟨he, h.on h1⟩)
theorem Fresh.wait {W0 W : World} {P : Nat → Prop} {g n : Nat} {bs : List (List Frame)} (h : Fresh W0 W P g n bs) (a b : Int) {r : Nat} (hr : waitF n bs a b = r) :
    Calls Try.prog 15 #[.pointer (some ⟨g, 0, none⟩), .int .i64 a, .int .i64 b] W fun e w' => e = .returned (.int .i64 (r : Int)) ∧ Fresh W0 w' P g n bs := by
  have := wait_calls h.net.i a b
  rw [hr] at this
  exact this.mono (fun e w' ⟨he, nd, hd⟩ => by subst hd; exact ⟨he, h.on (pw_below_drewN (Below.refl _ _) nd)⟩)
theorem Fresh.deliver {W0 W : World} {P : Nat → Prop} {g n : Nat} {bs : List (List Frame)} (h : Fresh W0 W P g n bs) (a b x : Int) {l : List Int} {r : Int} {bs' : List (List Frame)} (hp : peekF n bs a b x = (l, r)) (hb : (loseF n bs a b x).2 = bs') :
    Calls Try.prog 16 #[.pointer (some ⟨g, 0, none⟩), .int .i64 a, .int .i64 b, .int .i64 x] W fun e w' => ∃ A c, e = .returned (.tuple #[.slice A l.length c, .int .i64 r]) ∧ (∃ P', Fresh W0 w' P' g n bs') ∧ Sem.run Try.prog (convert 22 9 (.slice A l.length c)) w' = .ok (.string (strOfNums l)) w' := by
  have := h.net.deliver a b x
  rw [hp, hb] at this
  refine this.mono (fun e w' ⟨v, P', he, h1, h2, h3⟩ => ?_)
  obtain ⟨A, c, rfl⟩ := Kd.R_slice h3
  exact ⟨A, c, he, ⟨P', h.next h1 h2⟩, str_of (Kd.R_V h3 (base' := 0))⟩
theorem Fresh.awake {W0 W : World} {P : Nat → Prop} {g n : Nat} {bs : List (List Frame)} (h : Fresh W0 W P g n bs) : Calls Try.prog 13 #[] W fun e w' => e = .returned (.bool true) ∧ Below W0.heap.size W0 w' :=
  (awake_calls W).mono (fun e w' ⟨he, hb⟩ => ⟨he, h.below.trans (hb.mono h.below.size)⟩)
theorem next_eq {i : Nat} (h : wrap64 ((i : Int) + 1) = (i : Int) + 1) : Value.int .i64 (wrap64 ((i : Int) + 1)) = Value.int .i64 ((i + 1 : Nat) : Int) := by rw [h, Int.natCast_succ]
theorem dec_lt {i q : Nat} (h : i < q) (hw : wrap64 ((i : Int) + 1) = (i : Int) + 1) : q - (intOf (Value.int .i64 (wrap64 ((i : Int) + 1)))).toNat < q - (intOf (Value.int .i64 (i : Int))).toNat := by
  rw [hw]
  show q - ((i : Int) + 1).toNat < q - (i : Int).toNat
  omega
end Go.Proofs.Ytchepjbdaojidaa.PBags
namespace Go.Proofs.Ytchepjbdaojidaa.PBags
open Go.RowKit Go.Proofs.YtchepjbdaojidaaW.PrintWords Go.Proofs.YtchepjbdaojidaaW.PrintLast Go.Proofs.YtchepjbdaojidaaW.PrintMore
attribute [local go_sem] max2_int min2_int max_two min_two max_three min_three max_four min_four
set_option linter.unusedVariables false
set_option linter.unusedSimpArgs false

theorem count_set : ∀ (m : Nat) {bs : List (List Frame)} {k : Nat} {xs : List Frame}, k < bs.length → k < m → countF (bs.set k xs) m + (bs.getD k []).length = countF bs m + xs.length
  | 0, _, _, _, _, h => absurd h (Nat.not_lt_zero _)
  | m + 1, bs, k, xs, hk, h => by
    have hsame : ∀ m, m ≤ k → countF (bs.set k xs) m = countF bs m := by
      intro m hm
      induction m with
      | zero => rfl
      | succ j ih => rw [countF, countF, ih (by omega), getD_set_other bs k j xs [] (by omega)]
    rw [countF, countF]
    by_cases c : k = m
    · subst c
      rw [hsame k (Nat.le_refl _), getD_set_same bs k xs [] hk]
      omega
    · rw [getD_set_other bs k m xs [] c]
      have := count_set m (xs := xs) hk (by omega)
      omega
theorem link_key {n : Nat} {a b : Int} (h : linkF n a b = 0) : key n a b < n * n := by
  unfold linkF at h
  split at h
  · cases h
  · rename_i h_
    exact key_lt (by omega) (by omega)
theorem put_count {n : Nat} {bs : List (List Frame)} {a b : Int} {f : Frame} (hl : bs.length = n * n) :
    ((putF n bs a b f).1 = 0 ∧ countF (putF n bs a b f).2 (n * n) = countF bs (n * n) + 1) ∨ ((putF n bs a b f).1 ≠ 0 ∧ countF (putF n bs a b f).2 (n * n) = countF bs (n * n)) := by
  unfold putF
  by_cases h : linkF n a b = 0
  · rw [if_pos h]
    split
    · exact .inr ⟨show (3 : Int) ≠ 0 by decide, rfl⟩
    · split
      · exact .inr ⟨show (6 : Int) ≠ 0 by decide, rfl⟩
      · refine .inl ⟨rfl, ?_⟩
        have := count_set (n * n) (xs := bs.getD (key n a b) [] ++ [f]) (by rw [hl]; exact link_key h) (link_key h)
        rw [List.length_append, List.length_singleton] at this
        show countF (bs.set (key n a b) (bs.getD (key n a b) [] ++ [f])) (n * n) = _
        omega
  · rw [if_neg h]; exact .inr ⟨h, rfl⟩
theorem frame_link {n : Nat} {bs : List (List Frame)} {a b x : Int} (h : frameF n bs a b x = 0) : linkF n a b = 0 ∧ 0 ≤ x ∧ x.toNat < (bs.getD (key n a b) []).length := by
  unfold frameF at h
  by_cases c : linkF n a b = 0
  · rw [if_pos c] at h
    split at h
    · cases h
    · rename_i h_
      exact ⟨c, by omega, by omega⟩
  · rw [if_neg c] at h; exact absurd h c
theorem lose_count {n : Nat} {bs : List (List Frame)} {a b x : Int} (hl : bs.length = n * n) :
    (frameF n bs a b x = 0 ∧ countF (loseF n bs a b x).2 (n * n) + 1 = countF bs (n * n)) ∨ (frameF n bs a b x ≠ 0 ∧ countF (loseF n bs a b x).2 (n * n) = countF bs (n * n)) := by
  unfold loseF
  by_cases h : frameF n bs a b x = 0
  · rw [if_pos h]
    obtain ⟨h1, h2, h3⟩ := frame_link h
    refine .inl ⟨h, ?_⟩
    have := count_set (n * n) (xs := (bs.getD (key n a b) []).eraseIdx x.toNat) (by rw [hl]; exact link_key h1) (link_key h1)
    rw [List.length_eraseIdx_of_lt h3] at this
    show countF (bs.set (key n a b) ((bs.getD (key n a b) []).eraseIdx x.toNat)) (n * n) + 1 = _
    omega
  · rw [if_neg h]; exact .inr ⟨h, rfl⟩
theorem double_count {n : Nat} {bs : List (List Frame)} {a b x : Int} (hl : bs.length = n * n) :
    ((doubleF n bs a b x).1 = 0 ∧ countF (doubleF n bs a b x).2 (n * n) = countF bs (n * n) + 1) ∨ ((doubleF n bs a b x).1 ≠ 0 ∧ countF (doubleF n bs a b x).2 (n * n) = countF bs (n * n)) := by
  unfold doubleF
  by_cases h : frameF n bs a b x = 0
  · rw [if_pos h]; exact put_count hl
  · rw [if_neg h]; exact .inr ⟨h, rfl⟩
theorem Fresh.long {W0 W : World} {P : Nat → Prop} {g n : Nat} {bs : List (List Frame)} (h : Fresh W0 W P g n bs) : bs.length = n * n := by
  obtain ⟨A, c, h1, h2, h3, h4, h5, h6, h7⟩ := h.net.i
  exact h6
theorem peek_two {n : Nat} {bs : List (List Frame)} {a b x : Int} : (peekF n bs a b x).2 = frameF n bs a b x := by
  unfold peekF
  split
  · rename_i h; rw [h]
  · rfl
/-- Counts behind a call: one more, one less, or as they were. -/
theorem count_sub {cc co ci : Nat} (h : cc + co = ci) (h2 : ci ≤ 401) : wrap64 ((ci : Int) - (co : Int)) = (cc : Int) := by unfold wrap64; omega
theorem count_nil (n : Nat) (m : Nat) : countF (List.replicate n ([] : List Frame)) m = 0 := by
  induction m with
  | zero => rfl
  | succ j ih =>
    rw [countF, ih]
    have e : (List.replicate n ([] : List Frame)).getD j [] = [] := by
      rw [List.getD_eq_getElem?_getD]
      by_cases c : j < n
      · rw [List.getElem?_replicate, if_pos c]; rfl
      · rw [List.getElem?_eq_none (by rw [List.length_replicate]; omega)]; rfl
    rw [e]; rfl
theorem Fresh.sendV {W0 W : World} {P ok : Nat → Prop} {g n : Nat} {bs : List (List Frame)} (h : Fresh W0 W P g n bs) {A : Option Addr} {c : Nat} {l : List Int} (hv : Kd.V (Kd.int .u8) 5 W 0 ok (.slice A l.length c) l) (hc : l.length ≤ c) (a b : Int) {r : Int} {bs' : List (List Frame)} (hp : putF n bs a b (l, false) = (r, bs')) :
    Calls Try.prog 11 #[.pointer (some ⟨g, 0, none⟩), .int .i64 a, .int .i64 b, .slice A l.length c] W fun e w' => e = .returned (.int .i64 r) ∧ ∃ P', Fresh W0 w' P' g n bs' := by
  have := h.net.send a b A c l (Kd.V_reads' hv).2.2 hc
  rw [hp] at this
  exact this.mono (fun e w' ⟨P', he, h1, h2⟩ => ⟨he, P', h.next h1 h2⟩)
theorem Fresh.lose {W0 W : World} {P : Nat → Prop} {g n : Nat} {bs : List (List Frame)} (h : Fresh W0 W P g n bs) (a b x : Int) {r : Int} {bs' : List (List Frame)} (hp : frameF n bs a b x = r) (hb : (loseF n bs a b x).2 = bs') :
    Calls Try.prog 17 #[.pointer (some ⟨g, 0, none⟩), .int .i64 a, .int .i64 b, .int .i64 x] W fun e w' => e = .returned (.int .i64 r) ∧ ∃ P', Fresh W0 w' P' g n bs' := by
  have := h.net.lose2 a b x
  rw [hp, hb] at this
  exact this.mono (fun e w' ⟨P', he, h1, h2⟩ => ⟨he, P', h.next h1 h2⟩)
set_option maxHeartbeats 8000000 in
set_option maxRecDepth 100000 in
theorem bagsCounts_calls (W : World) (n : Int) (A : Option Addr) (c : Nat) (l : List Cmd) (hl : Kd.C kCmd W A l.length l) (hc : l.length ≤ c) (hok : ∀ x ∈ l, x.l.length ≤ 140737488351232) :
    Calls Try.prog 4 #[.int .i64 n, .slice A l.length c] W fun e W' => e = .returned (.bool true) ∧ Below W.heap.size W W' := by
  have HAW := Aside0.mk (awake_calls W)
  by_cases hn : n < 1 ∨ 64 < n
  · have HNO := Aside0.mk (new_out W n hn)
    by_cases h1 : n < 1
    · have e1 : decide (n < 1) = true := decide_eq_true h1
      clear hl hok hn h1
      go_enter Try.func4, Try.ntmps4
      go_wp2_with (fail)
      refine HNO.out.mono ?_
      rintro e w' ⟨rfl, rfl⟩
      clear HNO
      go_wp2_with (fail)
      refine HAW.out.mono ?_
      rintro e w' ⟨rfl, hb⟩
      have HB := Aside0.mk hb
      clear hb HAW
      go_wp2
      go_ret
      exact ⟨rfl, HB.out⟩
    · have e1 : decide (n < 1) = false := decide_eq_false h1
      have e2 : decide (64 < n) = true := decide_eq_true (by omega)
      have e2' : decide (n > 64) = true := decide_eq_true (by omega)
      clear hl hok hn h1
      go_enter Try.func4, Try.ntmps4
      go_wp2_with (fail)
      refine HNO.out.mono ?_
      rintro e w' ⟨rfl, rfl⟩
      clear HNO
      go_wp2_with (fail)
      refine HAW.out.mono ?_
      rintro e w' ⟨rfl, hb⟩
      have HB := Aside0.mk hb
      clear hb HAW
      go_wp2
      go_ret
      exact ⟨rfl, HB.out⟩
  obtain ⟨m, rfl⟩ : ∃ m : Nat, n = (m : Int) := ⟨n.toNat, by omega⟩
  have hm1 : 1 ≤ m := by omega
  have hm2 : m ≤ 64 := by omega
  have e1 : ((m : Int) < 1) = False := eq_false (by omega)
  have e2 : ((64 : Int) < (m : Int)) = False := eq_false (by omega)
  have e2' : (64 < m) = False := eq_false (by omega)
  have e3 : (m = 0) = False := eq_false (by omega)
  have HNW := Aside0.mk (Net.new W m hm1 hm2)
  have HL : Aside0 (Kd.V kCmd 37 W 0 (fun k => k < W.heap.size) (.slice A l.length c) l) := ⟨Kd.V_mk (e := 37) (base := 0) hc (Kd.C_F heap_cmd hl)⟩
  have HOK := Aside0.mk hok
  obtain ⟨q, hq⟩ : ∃ q, l.length = q := ⟨_, rfl⟩
  have HLEN := Aside0.mk hq
  rw [hq] at HL
  clear hl hok hn hc hm1 hm2
  rw [hq]
  clear hq
  go_enter Try.func4, Try.ntmps4
  go_wp2_with (fail)
  refine HNW.out.mono ?_
  rintro e w1 ⟨g, P1, rfl, hN1, hW1⟩
  have HF1 : Aside0 (Fresh W w1 P1 g m (List.replicate (m * m) [])) := ⟨⟨hN1, hW1⟩⟩
  clear hN1 hW1 HNW
  go_wp2_with (fail)
  go_loopw [7, 8, 9] (fun v7 v8 v9 wr => ∃ (i ci co : Nat) (P : Nat → Prop) (bs : List (List Frame)), v9 = .int .i64 (i : Int) ∧ v7 = .int .i64 (ci : Int) ∧ v8 = .int .i64 (co : Int) ∧ Aside0 (i ≤ 400 ∧ ci ≤ i ∧ countF bs (m * m) + co = ci) ∧ Aside0 (Fresh W wr P g m bs)) (fun _ _ v9 _ => 400 - (intOf v9).toNat)
  case atStart => exact ⟨0, 0, 0, P1, _, rfl, rfl, rfl, ⟨Nat.zero_le _, Nat.le_refl _, count_nil _ _⟩, HF1⟩
  case round =>
    rename World => wo
    clear HF1
    obtain ⟨i, ci, co, P, bs, rfl, rfl, rfl, HI, HF⟩ := hrel
    by_cases hlt : i < q
    · have b2 : ((i : Int) < (q : Int)) = True := eq_true (Int.ofNat_lt.2 hlt)
      have b3 : (i < q) = True := eq_true hlt
      by_cases h4 : i < 400
      · have b1 : (0 ≤ (i : Int)) = True := eq_true (Int.natCast_nonneg _)
        have b4 : ((i : Int) < 400) = True := eq_true (Int.ofNat_lt.2 h4)
        have b5 : (i < 400) = True := eq_true h4
        obtain ⟨ad, Ai, cj, hA, hc_⟩ := cmd_came (by rw [HLEN.out]; exact HL.out) i (by rw [HLEN.out]; exact hlt)
        obtain ⟨z, hz⟩ : ∃ z, l.getD i zCmd = z := ⟨_, rfl⟩
        simp only [hz] at hc_
        clear hz
        obtain ⟨kd, a, b, x, p, mm, lp⟩ := z
        subst hA
        have hw_ := wrap_next (m := i) (by omega)
        have HLT := Aside0.mk h4
        obtain ⟨⟨k0, k1, k2, k3, k4, k5, k6⟩, kv⟩ := hc_ _ HF.out.below
        obtain ⟨W1, hW1⟩ : ∃ W1, wo.alloc (.cells #[.int .i64 kd, .int .i64 a, .int .i64 b, .int .i64 x, .int .i64 p, .int .i64 mm, .slice Ai lp.length cj] 37) = W1 := ⟨_, rfl⟩
        have hbx : W1.heap[wo.heap.size]? = some (.cells #[.int .i64 kd, .int .i64 a, .int .i64 b, .int .i64 x, .int .i64 p, .int .i64 mm, .slice Ai lp.length cj] 37 (0, 0)) := by rw [← hW1]; exact Mem.alloc_new _ _
        have hb1 : Below wo.heap.size wo W1 := by rw [← hW1]; exact below_alloc (Below.refl _ _) _
        have HFb := Aside0.mk (HF.out.on hb1)
        have HVB := Aside0.mk (Kd.V_bound kv)
        have HVC := Aside0.mk (And.intro (Kd.V_below kv hb1) (Kd.V_reads' kv).2.1)
        have c0 := Mem.cell_of hbx 0
        have c1 := Mem.cell_of hbx 1
        have c2 := Mem.cell_of hbx 2
        have c3 := Mem.cell_of hbx 3
        have c6 := Mem.cell_of hbx 6
        clear hlt h4 hc_ hbx hb1 kv
        go_upto_block 2 with (fail)
        clear hW1 k0 k1 k2 k3 k4 k5 k6
        go_cut [7, 8] (fun s7 s8 wc => ∃ (ci' co' : Nat) (P' : Nat → Prop) (bs' : List (List Frame)), s7 = .int .i64 (ci' : Int) ∧ s8 = .int .i64 (co' : Int) ∧ Aside0 (ci' ≤ i + 1 ∧ countF bs' (m * m) + co' = ci') ∧ Aside0 (Fresh W wc P' g m bs'))
        case first =>
          by_cases h0 : kd = 0
          · subst h0
            obtain ⟨r, bs', hp⟩ : ∃ r bs', putF m bs a b (lp, false) = (r, bs') := ⟨_, _, rfl⟩
            have hcn := put_count (f := (lp, false)) (a := a) (b := b) HF.out.long
            rw [hp] at hcn
            have HCN := Aside0.mk hcn
            clear hcn
            have HC_ := Aside0.mk (HFb.out.sendV HVC.out.1 HVC.out.2 a b hp)
            go_wp2_with (fail)
            refine HC_.out.mono ?_
            rintro e w2 ⟨rfl, P2, h_⟩
            have HF2 := Aside0.mk h_
            clear h_ HC_ c0 c1 c2 c3 c6 HFb HVB HVC
            by_cases hr : r = 0
            · have r0 : (r == 0) = true := beq_iff_eq.2 hr
              have HE := Aside0.mk (HCN.out.elim (fun h => h.2) (fun h => absurd hr h.1))
              have hwv := wrap_next (m := ci) (by have := HI.out; omega)
              clear hr
              go_wp2_with (fail)
              go_meet
              case rel => exact ⟨ci + 1, co, _, bs', next_eq hwv, rfl, ⟨Nat.succ_le_succ HI.out.2.1, by rw [HE.out]; have := HI.out.2.2; omega⟩, HF2⟩
            · have r0 : (r == 0) = false := beq_eq_false_iff_ne.2 hr
              have HE := Aside0.mk (HCN.out.elim (fun h => absurd h.1 hr) (fun h => h.2))
              clear hr
              go_wp2_with (fail)
              go_meet
              case rel => exact ⟨ci, co, _, bs', rfl, rfl, ⟨Nat.le_succ_of_le HI.out.2.1, by rw [HE.out]; exact HI.out.2.2⟩, HF2⟩
          by_cases h1 : kd = 1
          · subst h1
            obtain ⟨lr, r, hp⟩ : ∃ lr r, peekF m bs a b x = (lr, r) := ⟨_, _, rfl⟩
            obtain ⟨bs', hq_⟩ : ∃ bs', (loseF m bs a b x).2 = bs' := ⟨_, rfl⟩
            have hcn := lose_count (a := a) (b := b) (x := x) HF.out.long
            rw [hq_, ← peek_two, hp] at hcn
            have HCN := Aside0.mk hcn
            have z0 : ((1 : Int) == 0) = false := rfl
            clear hcn h0
            have HC_ := Aside0.mk (HFb.out.deliver a b x hp hq_)
            go_wp2_with (fail)
            refine HC_.out.mono ?_
            rintro e w2 ⟨A3, c3_, rfl, ⟨P2, h_⟩, _⟩
            have HF2 := Aside0.mk h_
            clear h_ HC_ c0 c1 c2 c3 c6 HFb HVB HVC
            by_cases hr : r = 0
            · have r0 : (r == 0) = true := beq_iff_eq.2 hr
              have HE := Aside0.mk (HCN.out.elim (fun h => h.2) (fun h => absurd hr h.1))
              have hwv := wrap_next (m := co) (by have := HI.out; omega)
              clear hr
              go_wp2_with (fail)
              go_meet
              case rel => exact ⟨ci, co + 1, _, bs', rfl, next_eq hwv, ⟨Nat.le_succ_of_le HI.out.2.1, by have := HE.out; have := HI.out.2.2; omega⟩, HF2⟩
            · have r0 : (r == 0) = false := beq_eq_false_iff_ne.2 hr
              have HE := Aside0.mk (HCN.out.elim (fun h => absurd h.1 hr) (fun h => h.2))
              clear hr
              go_wp2_with (fail)
              go_meet
              case rel => exact ⟨ci, co, _, bs', rfl, rfl, ⟨Nat.le_succ_of_le HI.out.2.1, by rw [HE.out]; exact HI.out.2.2⟩, HF2⟩
          by_cases h2 : kd = 2
          · subst h2
            obtain ⟨r, hp⟩ : ∃ r, frameF m bs a b x = r := ⟨_, rfl⟩
            obtain ⟨bs', hq_⟩ : ∃ bs', (loseF m bs a b x).2 = bs' := ⟨_, rfl⟩
            have hcn := lose_count (a := a) (b := b) (x := x) HF.out.long
            rw [hq_, hp] at hcn
            have HCN := Aside0.mk hcn
            clear hcn h0 h1
            have HC_ := Aside0.mk (HFb.out.lose a b x hp hq_)
            go_wp2_with (fail)
            refine HC_.out.mono ?_
            rintro e w2 ⟨rfl, P2, h_⟩
            have HF2 := Aside0.mk h_
            clear h_ HC_ c0 c1 c2 c3 c6 HFb HVB HVC
            by_cases hr : r = 0
            · have r0 : (r == 0) = true := beq_iff_eq.2 hr
              have HE := Aside0.mk (HCN.out.elim (fun h => h.2) (fun h => absurd hr h.1))
              have hwv := wrap_next (m := co) (by have := HI.out; omega)
              clear hr
              go_wp2_with (fail)
              go_meet
              case rel => exact ⟨ci, co + 1, _, bs', rfl, next_eq hwv, ⟨Nat.le_succ_of_le HI.out.2.1, by have := HE.out; have := HI.out.2.2; omega⟩, HF2⟩
            · have r0 : (r == 0) = false := beq_eq_false_iff_ne.2 hr
              have HE := Aside0.mk (HCN.out.elim (fun h => absurd h.1 hr) (fun h => h.2))
              clear hr
              go_wp2_with (fail)
              go_meet
              case rel => exact ⟨ci, co, _, bs', rfl, rfl, ⟨Nat.le_succ_of_le HI.out.2.1, by rw [HE.out]; exact HI.out.2.2⟩, HF2⟩
          by_cases h3 : kd = 3
          · subst h3
            obtain ⟨r, bs', hp⟩ : ∃ r bs', doubleF m bs a b x = (r, bs') := ⟨_, _, rfl⟩
            have hcn := double_count (a := a) (b := b) (x := x) HF.out.long
            rw [hp] at hcn
            have HCN := Aside0.mk hcn
            clear hcn h0 h1 h2
            have HC_ := Aside0.mk (HFb.out.double a b x hp)
            go_wp2_with (fail)
            refine HC_.out.mono ?_
            rintro e w2 ⟨rfl, P2, h_⟩
            have HF2 := Aside0.mk h_
            clear h_ HC_ c0 c1 c2 c3 c6 HFb HVB HVC
            by_cases hr : r = 0
            · have r0 : (r == 0) = true := beq_iff_eq.2 hr
              have HE := Aside0.mk (HCN.out.elim (fun h => h.2) (fun h => absurd hr h.1))
              have hwv := wrap_next (m := ci) (by have := HI.out; omega)
              clear hr
              go_wp2_with (fail)
              go_meet
              case rel => exact ⟨ci + 1, co, _, bs', next_eq hwv, rfl, ⟨Nat.succ_le_succ HI.out.2.1, by rw [HE.out]; have := HI.out.2.2; omega⟩, HF2⟩
            · have r0 : (r == 0) = false := beq_eq_false_iff_ne.2 hr
              have HE := Aside0.mk (HCN.out.elim (fun h => absurd h.1 hr) (fun h => h.2))
              clear hr
              go_wp2_with (fail)
              go_meet
              case rel => exact ⟨ci, co, _, bs', rfl, rfl, ⟨Nat.le_succ_of_le HI.out.2.1, by rw [HE.out]; exact HI.out.2.2⟩, HF2⟩
          have z0 : (kd == 0) = false := beq_eq_false_iff_ne.2 h0
          have z1 : (kd == 1) = false := beq_eq_false_iff_ne.2 h1
          have z2 : (kd == 2) = false := beq_eq_false_iff_ne.2 h2
          have z3 : (kd == 3) = false := beq_eq_false_iff_ne.2 h3
          clear h0 h1 h2 h3
          go_wp2_with (fail)
          go_meet
          case rel => exact ⟨ci, co, _, _, rfl, rfl, ⟨Nat.le_succ_of_le HI.out.2.1, HI.out.2.2⟩, HFb⟩
        case rest =>
          clear c0 c1 c2 c3 c6 HFb HVB HVC
          obtain ⟨ci', co', P', bs', rfl, rfl, HI2, HF2⟩ := hcut
          have HLN := Aside0.mk (HF2.out.len rfl)
          have hws := count_sub HI2.out.2 (by have := HI2.out.1; have := HLT.out; omega)
          go_wp2_with (fail)
          refine HLN.out.mono ?_
          rintro e w6 ⟨rfl, h_⟩
          have HF6 := Aside0.mk h_
          clear h_ HLN
          go_wp2
          go_roundw
          case rel => exact ⟨i + 1, ci', co', P', bs', next_eq hw_, rfl, rfl, ⟨HLT.out, HI2.out.1, HI2.out.2⟩, HF6⟩
          case measure => exact dec_lt HLT.out hw_
      · have b4 : ((i : Int) < 400) = False := eq_false (fun h => h4 (Int.ofNat_lt.1 h))
        have b5 : (i < 400) = False := eq_false h4
        clear h4 hlt
        have HAW := Aside0.mk HF.out.awake
        go_wp2_with (fail)
        refine HAW.out.mono ?_
        rintro e w' ⟨rfl, hb⟩
        have HB := Aside0.mk hb
        clear hb HAW
        go_wp2
        go_ret
        exact ⟨rfl, HB.out⟩
    · have b2 : ((i : Int) < (q : Int)) = False := eq_false (fun h => hlt (Int.ofNat_lt.1 h))
      have b3 : (i < q) = False := eq_false hlt
      clear hlt
      have HAW := Aside0.mk HF.out.awake
      go_wp2_with (fail)
      refine HAW.out.mono ?_
      rintro e w' ⟨rfl, hb⟩
      have HB := Aside0.mk hb
      clear hb HAW
      go_wp2
      go_ret
      exact ⟨rfl, HB.out⟩
end Go.Proofs.Ytchepjbdaojidaa.PBags
