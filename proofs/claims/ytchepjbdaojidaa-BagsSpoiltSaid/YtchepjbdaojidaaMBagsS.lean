/- A net of new blocks alone, in the midst of a law; a frame that was spoilt has one byte turned; neither it nor its double is spoilt again. -/
import Derived.Test.YtchepjbdaojidaaMBagsHc
import Derived.Test.YtchepjbdaojidaaMBagsHb
import Derived.Lib.SlBytesConst
import Derived.Laws.BitsAllLaws
namespace Go.Proofs.Ytchepjbdaojidaa.PBags
open Go.RowKit Go.Proofs.YtchepjbdaojidaaW.PrintWords Go.Proofs.YtchepjbdaojidaaW.PrintLast Go.Proofs.YtchepjbdaojidaaW.PrintMore
attribute [local go_sem] max2_int min2_int max_two min_two max_three min_three max_four min_four
set_option linter.unusedVariables false
set_option linter.unusedSimpArgs false

theorem lose_code {n : Nat} {bs : List (List Frame)} {a b x : Int} : (loseF n bs a b x).1 = frameF n bs a b x := by
  unfold loseF
  split
  · rename_i h; rw [h]
  · rfl
theorem Net.lose2 {w : World} {P : Nat → Prop} {g n : Nat} {bs : List (List Frame)} (h : Net w P g n bs) (a b x : Int) :
    Calls Try.prog 17 #[.pointer (some ⟨g, 0, none⟩), .int .i64 a, .int .i64 b, .int .i64 x] w fun e w' => ∃ P', e = .returned (.int .i64 (frameF n bs a b x)) ∧ Net w' P' g n (loseF n bs a b x).2 ∧ Went w P w' P' := by
  have h_ := h.lose a b x
  rw [lose_code] at h_
  exact h_.mono (fun e w' h => ⟨P, h.1, h.2.1, ⟨h.2.2, fun _ hk => .inl hk⟩⟩)
/-- The bags behind a call. -/
def playF (n : Nat) (bs : List (List Frame)) (kd a b x p m : Int) (l : List Int) : List (List Frame) :=
  if kd = 0 then (putF n bs a b (l, false)).2 else if kd = 1 ∨ kd = 2 then (loseF n bs a b x).2 else if kd = 3 then (doubleF n bs a b x).2 else if kd = 4 then (spoilF n bs a b x p m).2 else bs
/-- The three boxes of play: the document's net, the call, the result. -/
structure PB (w W : World) (n : Nat) (A : Option Addr) (len c : Nat) (kd a b x p m : Int) (Ap : Option Addr) (lp cp : Nat) : Prop where
  net : W.heap[w.heap.size]? = some (.cells #[.int .i64 (n : Int), .slice A len c] 41 (0, 0))
  act : W.heap[w.heap.size + 1]? = some (.cells #[.int .i64 kd, .int .i64 a, .int .i64 b, .int .i64 x, .int .i64 p, .int .i64 m, .slice Ap lp cp] 37 (0, 0))
  res : W.heap[w.heap.size + 2]? = some (.cells #[.int .i64 0, .slice none 0 0] 41 (0, 0))
  size : w.heap.size + 3 ≤ W.heap.size
section
variable {w W W1 : World} {n len c lp cp : Nat} {A Ap : Option Addr} {kd a b x p m : Int}
theorem PB.start (w : World) (n : Nat) (A : Option Addr) (len c : Nat) (kd a b x p m : Int) (Ap : Option Addr) (lp cp : Nat) :
    PB w (((w.alloc (.cells #[.int .i64 (n : Int), .slice A len c] 41)).alloc (.cells #[.int .i64 kd, .int .i64 a, .int .i64 b, .int .i64 x, .int .i64 p, .int .i64 m, .slice Ap lp cp] 37)).alloc (.cells #[.int .i64 0, .slice none 0 0] 41)) n A len c kd a b x p m Ap lp cp :=
  ⟨Mem.alloc_old (Mem.alloc_old (Mem.alloc_new _ _) _) _, Mem.alloc_old (Mem.alloc_new_at _ _ _ (by rw [Mem.alloc_size])) _, Mem.alloc_new_at _ _ _ (by rw [Mem.alloc_size, Mem.alloc_size]), by rw [Mem.alloc_size, Mem.alloc_size, Mem.alloc_size]; exact Nat.le_refl _⟩
theorem PB.below (h : PB w W n A len c kd a b x p m Ap lp cp) (hb : Below W.heap.size W W1) : PB w W1 n A len c kd a b x p m Ap lp cp := by
  have hs := h.size
  exact ⟨(hb.block _ (by omega)).trans h.net, (hb.block _ (by omega)).trans h.act, (hb.block _ (by omega)).trans h.res, Nat.le_trans hs hb.size⟩
theorem PB.kept (h : PB w W n A len c kd a b x p m Ap lp cp) {S : Nat → Prop} (hk : Kept W W1 S) (hS : ∀ i, i < 3 → ¬ S (w.heap.size + i)) : PB w W1 n A len c kd a b x p m Ap lp cp := by
  have hs := h.size
  exact ⟨(hk.2 _ (by omega) (hS 0 (by decide))).trans h.net, (hk.2 _ (by omega) (hS 1 (by decide))).trans h.act, (hk.2 _ (by omega) (hS 2 (by decide))).trans h.res, Nat.le_trans hs hk.1⟩
theorem PB.cells (h : PB w W n A len c kd a b x p m Ap lp cp) : W.cell? ⟨w.heap.size, 0, none⟩ = some (.int .i64 (n : Int)) ∧ W.cell? ⟨w.heap.size, 1, none⟩ = some (.slice A len c) ∧
    W.cell? ⟨w.heap.size + 1, 0, none⟩ = some (.int .i64 kd) ∧ W.cell? ⟨w.heap.size + 1, 1, none⟩ = some (.int .i64 a) ∧ W.cell? ⟨w.heap.size + 1, 2, none⟩ = some (.int .i64 b) ∧ W.cell? ⟨w.heap.size + 1, 3, none⟩ = some (.int .i64 x) ∧
    W.cell? ⟨w.heap.size + 1, 4, none⟩ = some (.int .i64 p) ∧ W.cell? ⟨w.heap.size + 1, 5, none⟩ = some (.int .i64 m) ∧ W.cell? ⟨w.heap.size + 1, 6, none⟩ = some (.slice Ap lp cp) ∧
    W.cell? ⟨w.heap.size + 2, 0, none⟩ = some (.int .i64 0) ∧ W.cell? ⟨w.heap.size + 2, 1, none⟩ = some (.slice none 0 0) ∧ W.frozen? ⟨w.heap.size + 2, 0, none⟩ = false ∧ W.frozen? ⟨w.heap.size + 2, 1, none⟩ = false :=
  ⟨Mem.cell_of h.net 0, Mem.cell_of h.net 1, Mem.cell_of h.act 0, Mem.cell_of h.act 1, Mem.cell_of h.act 2, Mem.cell_of h.act 3, Mem.cell_of h.act 4, Mem.cell_of h.act 5, Mem.cell_of h.act 6, Mem.cell_of h.res 0, Mem.cell_of h.res 1, Mem.free_of h.res 0, Mem.free_of h.res 1⟩
theorem PB.ret (h : PB w W n A len c kd a b x p m Ap lp cp) (v0 v1 : Value) : ((W.setCell ⟨w.heap.size + 2, 0, none⟩ v0).setCell ⟨w.heap.size + 2, 1, none⟩ v1).heap[w.heap.size + 2]? = some (.cells #[v0, v1] 41 (0, 0)) := ret41 h.res v0 v1
end
theorem str_of {W : World} {ok : Nat → Prop} {A : Option Addr} {c : Nat} {l : List Int} (h : Kd.V (Kd.int .u8) 5 W 0 ok (.slice A l.length c) l) : Sem.run Try.prog (convert 22 9 (.slice A l.length c)) W = .ok (.string (strOfNums l)) W :=
  Kd.C_string (dst := 9) (c := c) Try.underlying22 Try.underlying5 Try.underlying9 (Kd.V_reads' h).2.2
theorem str_far {W : World} {A : Option Addr} {b c : Nat} {l : List Int} (h : Kd.V (Kd.int .u8) 5 W 0 (fun k => k ≠ b) (.slice A l.length c) l) (u v : Value) :
    Sem.run Try.prog (convert 22 9 (.slice A l.length c)) ((W.setCell ⟨b, 0, none⟩ u).setCell ⟨b, 1, none⟩ v) = .ok (.string (strOfNums l)) ((W.setCell ⟨b, 0, none⟩ u).setCell ⟨b, 1, none⟩ v) :=
  str_of (Kd.V_far (p := ⟨b, 1, none⟩) (Kd.V_far (p := ⟨b, 0, none⟩) h (fun _ hk => hk) u) (fun _ hk => hk) v)
theorem wrap_top {m L : Nat} (h : m < L) (hL : L ≤ 9223372036854775807) : wrap64 ((m : Int) + 1) = (m : Int) + 1 := by unfold wrap64; omega
theorem put_byte {W : World} {base gp len c : Nat} {ok : Nat → Prop} {lst : List Int} (h : (Kd.int .u8).R 5 W base ok (.slice (some ⟨gp, 0, none⟩) len c) lst) (i : Nat) (x : Int) : (Kd.int .u8).R 5 (W.setCell ⟨gp, i, none⟩ (.int .u8 x)) base ok (.slice (some ⟨gp, 0, none⟩) len c) (lst.set i x) := by
  have := Kd.R_putn h (i : Int) x
  rw [Int.toNat_natCast] at this
  exact this
theorem Net.kept {w w' : World} {P S : Nat → Prop} {g n : Nat} {bs : List (List Frame)} (h : Net w P g n bs) (hk : Kept w w' S) (hS : ∀ k, P k → ¬ S k) : Net w' P g n bs := by
  refine ⟨?_, h.small, fun k hp => Nat.lt_of_lt_of_le (h.lt k hp) hk.1⟩
  obtain ⟨A, c, h1, h2, h3, h4, h5, h6, h7⟩ := h.i
  exact ⟨A, c, (hk.2 g (h.lt g h3) (hS g h3)).trans h1, h2, h3, h4, h5, h6, Kd.S_step h7 (fun k hp hl => hk.2 k hl (hS k hp.1))⟩
theorem room1 {l : List Int} (h : l.length ≤ 140737488351232) : (([] : List Int).length + l.length) * 1 ≤ 140737488355328 := by rw [List.length_nil]; omega
/-- The result is laid: the net and the document's net stay. -/
theorem play_end {w W : World} {P P' Q' : Nat → Prop} {g n : Nat} {bs' : List (List Frame)} {ys' : List S45} {v : Value} (hN : Net W P' g n bs') (hT : Tie n bs' ys') (hV : Kd.V k45 45 W 0 Q' v ys') (hQ : ∀ k, Q' k → ¬ P' k) (hQ2 : ∀ k, Q' k → k ≠ w.heap.size + 2) (hP2 : ∀ k, P' k → k ≠ w.heap.size + 2) (hW : Went w P W P') {Q : Nat → Prop} (hQ3 : ∀ k, Q' k → Q k ∨ w.heap.size ≤ k) (v0 v1 : Value) :
    ∃ P' Q', Net ((W.setCell ⟨w.heap.size + 2, 0, none⟩ v0).setCell ⟨w.heap.size + 2, 1, none⟩ v1) P' g n bs' ∧ Tie n bs' ys' ∧ Kd.V k45 45 ((W.setCell ⟨w.heap.size + 2, 0, none⟩ v0).setCell ⟨w.heap.size + 2, 1, none⟩ v1) 0 Q' v ys' ∧ (∀ k, Q' k → ¬ P' k) ∧ (∀ k, Q' k → Q k ∨ w.heap.size ≤ k) ∧ Went w P ((W.setCell ⟨w.heap.size + 2, 0, none⟩ v0).setCell ⟨w.heap.size + 2, 1, none⟩ v1) P' := by
  have e : ∀ k, k ≠ w.heap.size + 2 → ((W.setCell ⟨w.heap.size + 2, 0, none⟩ v0).setCell ⟨w.heap.size + 2, 1, none⟩ v1).heap[k]? = W.heap[k]? := fun k hk => (Mem.set_other _ _ _ _ hk).trans (Mem.set_other _ _ _ _ hk)
  have es : ((W.setCell ⟨w.heap.size + 2, 0, none⟩ v0).setCell ⟨w.heap.size + 2, 1, none⟩ v1).heap.size = W.heap.size := by rw [Mem.set_size, Mem.set_size]
  refine ⟨P', Q', ⟨?_, hN.small, fun k hk => by rw [es]; exact hN.lt k hk⟩, hT, Kd.V_step hV (fun k hk _ => e k (hQ2 k hk)), hQ, hQ3, ⟨Kept.setCell (Kept.setCell hW.kept (.inr (Nat.le_add_right _ 2)) _) (.inr (Nat.le_add_right _ 2)) _, hW.new⟩⟩
  obtain ⟨A, c, h1, h2, h3, h4, h5, h6, h7⟩ := hN.i
  exact ⟨A, c, (e g (hP2 g h3)).trans h1, h2, h3, h4, h5, h6, Kd.S_step h7 (fun k hk _ => e k (hP2 k hk.1))⟩
end Go.Proofs.Ytchepjbdaojidaa.PBags
namespace Go.Proofs.Ytchepjbdaojidaa.PBags
open Go.RowKit Go.Proofs.YtchepjbdaojidaaW.PrintWords Go.Proofs.YtchepjbdaojidaaW.PrintLast Go.Proofs.YtchepjbdaojidaaW.PrintMore
attribute [local go_sem] max2_int min2_int max_two min_two max_three min_three max_four min_four
set_option linter.unusedVariables false
set_option linter.unusedSimpArgs false
theorem Net.clone {w : World} {P : Nat → Prop} {g n : Nat} {bs : List (List Frame)} (h : Net w P g n bs) :
    Calls Try.prog 26 #[.pointer (some ⟨g, 0, none⟩)] w fun e w' => ∃ g2 P2, e = .returned (.pointer (some ⟨g2, 0, none⟩)) ∧ Net w' P2 g2 n bs ∧ (∀ k, P2 k → w.heap.size ≤ k) ∧ Below w.heap.size w w' :=
  (clone_calls h.i h.small).mono fun e w' ⟨g2, he, h1, h2⟩ => ⟨g2, _, he, Net.of h1 h.small, fun k hk => hk.1, h2⟩
/-- A net of no blocks that were: what is told of it leaves all that was. -/
theorem Went.fresh {w w' : World} {P' : Nat → Prop} (h : Went w (fun _ => False) w' P') : (∀ k, P' k → w.heap.size ≤ k) ∧ Below w.heap.size w w' :=
  ⟨fun k hk => (h.new k hk).elim False.elim id, h.kept.to_below (fun _ h => h.elim)⟩
/-- A literal's bytes. -/
theorem const_C (w : World) (l : List Int) (fr : Nat × Nat) (hl : l.length ≤ 1000) : Kd.C (Kd.int .u8) (w.alloc (.cells (l.map (Value.int .u8)).toArray 5 fr)) (some ⟨w.heap.size, 0, none⟩) l.length l := by
  refine ⟨rfl, by omega, fun _ => ⟨_, rfl, fun j p hj => ⟨[.int .u8 p], rfl, rfl, fun i u hi => ?_⟩⟩⟩
  have h0 : i = 0 := by
    have := (List.getElem?_eq_some_iff.1 hi).1
    simpa using this
  subst h0
  have hu : Value.int .u8 p = u := Option.some.inj hi
  subst hu
  rw [add_at, Nat.zero_add]
  show (w.alloc _).cell? ⟨w.heap.size, j * 1 + 0, none⟩ = _
  rw [Mem.cell_of (Mem.alloc_new w _), Nat.mul_one, Nat.add_zero, List.getElem?_toArray, List.getElem?_map, hj]
  rfl
set_option maxHeartbeats 8000000 in
set_option maxRecDepth 100000 in
theorem awake_calls (w : World) : Calls Try.prog 13 #[] w fun e w' => e = .returned (.bool true) ∧ Below w.heap.size w w' := by
  have HNW := Aside0.mk (Net.new w 2 (by decide) (by decide))
  go_enter Try.func13, Try.ntmps13
  go_wp2_with (fail)
  refine HNW.out.mono ?_
  rintro e w1 ⟨g, P1, rfl, hN1, hW1⟩
  have HN1 := Aside0.mk hN1
  have HW1 := Aside0.mk hW1
  clear hN1 hW1 HNW
  have kc := fun (w : World) (C : Array Value) (n c : Nat) => Lib.run_convert_bytes_const (P := Try.prog) w 22 5 C n c Try.underlying22 Try.underlying5
  have HBL := Aside0.mk (below_alloc (Below.refl w1.heap.size w1) (.cells #[.int .u8 97] 5 (1, 2)))
  have HN2 := Aside0.mk (HN1.out.below HBL.out)
  have HCC := Aside0.mk (const_C w1 [97] (1, 2) (by decide))
  have HS1 := Aside0.mk (HN2.out.send 0 1 _ 1 [97] HCC.out (Nat.le_refl _))
  rw [show (putF 2 (List.replicate (2 * 2) []) 0 1 ([97], false)).1 = 0 from by decide] at HS1
  go_wp2_with (fail)
  refine HS1.out.mono ?_
  rintro e w3 ⟨P3, rfl, hN3, hW3⟩
  have HN3 := Aside0.mk hN3
  have HW3 := Aside0.mk hW3
  have HS2 := Aside0.mk (HN3.out.send 0 0 none 0 [] (Kd.V_reads' (Kd.V_nil (Kd.int .u8) 5 w3 0 (fun _ => True))).2.2 (Nat.le_refl _))
  rw [show (putF 2 (putF 2 (List.replicate (2 * 2) []) 0 1 ([97], false)).2 0 0 ([], false)).1 = 7 from by decide] at HS2
  clear hN3 hW3 HS1 kc
  go_wp2_with (fail)
  refine HS2.out.mono ?_
  rintro e w4 ⟨P4, rfl, hN4, hW4⟩
  have HN4 := Aside0.mk hN4
  have HW4 := Aside0.mk hW4
  have HS3 := Aside0.mk (wait_calls HN4.out.i 0 1)
  rw [show waitF 2 (putF 2 (putF 2 (List.replicate (2 * 2) []) 0 1 ([97], false)).2 0 0 ([], false)).2 0 1 = 1 from by decide] at HS3
  clear hN4 hW4 HS2
  go_wp2_with (fail)
  refine HS3.out.mono ?_
  rintro e w5 ⟨rfl, ⟨nd, rfl⟩⟩
  go_wp2
  go_ret
  exact ⟨rfl, ((((HW1.out.trans (Went.below HBL.out _)).trans HW3.out).trans HW4.out).kept.below (pw_below_drewN (Below.refl _ _) nd)).to_below (fun _ h => h.elim)⟩
end Go.Proofs.Ytchepjbdaojidaa.PBags
namespace Go.Proofs.Ytchepjbdaojidaa.PBags
open Go.RowKit Go.Proofs.YtchepjbdaojidaaW.PrintWords Go.Proofs.YtchepjbdaojidaaW.PrintLast Go.Proofs.YtchepjbdaojidaaW.PrintMore
attribute [local go_sem] max2_int min2_int max_two min_two max_three min_three max_four min_four
set_option linter.unusedVariables false
set_option linter.unusedSimpArgs false

/-- A net of new blocks alone: what came in stays. -/
structure Fresh (W0 W : World) (P : Nat → Prop) (g n : Nat) (bs : List (List Frame)) : Prop where
  net : Net W P g n bs
  went : Went W0 (fun _ => False) W P
theorem Fresh.next {W0 W W' : World} {P P' : Nat → Prop} {g n : Nat} {bs bs' : List (List Frame)} (h : Fresh W0 W P g n bs) (hN : Net W' P' g n bs') (hw : Went W P W' P') : Fresh W0 W' P' g n bs' := ⟨hN, h.went.trans hw⟩
theorem Fresh.on {W0 W W' : World} {P : Nat → Prop} {g n : Nat} {bs : List (List Frame)} (h : Fresh W0 W P g n bs) (hb : Below W.heap.size W W') : Fresh W0 W' P g n bs := ⟨h.net.below hb, h.went.trans (Went.below hb P)⟩
theorem Fresh.below {W0 W : World} {P : Nat → Prop} {g n : Nat} {bs : List (List Frame)} (h : Fresh W0 W P g n bs) : Below W0.heap.size W0 W := h.went.fresh.2
theorem Fresh.bytes {W0 W : World} {P : Nat → Prop} {g n : Nat} {bs : List (List Frame)} (h : Fresh W0 W P g n bs) {A : Option Addr} {c : Nat} {l : List Int} (hv : Kd.V (Kd.int .u8) 5 W0 0 (fun k => k < W0.heap.size) (.slice A l.length c) l) : Kd.C (Kd.int .u8) W A l.length l :=
  (Kd.V_reads' (Kd.V_below hv h.below)).2.2
theorem Fresh.send {W0 W : World} {P : Nat → Prop} {g n : Nat} {bs : List (List Frame)} (h : Fresh W0 W P g n bs) {A : Option Addr} {c : Nat} {l : List Int} (hv : Kd.V (Kd.int .u8) 5 W0 0 (fun k => k < W0.heap.size) (.slice A l.length c) l) (hc : l.length ≤ c) (a b : Int) {r : Int} {bs' : List (List Frame)} (hp : putF n bs a b (l, false) = (r, bs')) :
    Calls Try.prog 11 #[.pointer (some ⟨g, 0, none⟩), .int .i64 a, .int .i64 b, .slice A l.length c] W fun e w' => e = .returned (.int .i64 r) ∧ ∃ P', Fresh W0 w' P' g n bs' := by
  have := h.net.send a b A c l (h.bytes hv) hc
  rw [hp] at this
  exact this.mono (fun e w' ⟨P', he, h1, h2⟩ => ⟨he, P', h.next h1 h2⟩)
theorem Fresh.double {W0 W : World} {P : Nat → Prop} {g n : Nat} {bs : List (List Frame)} (h : Fresh W0 W P g n bs) (a b x : Int) {r : Int} {bs' : List (List Frame)} (hp : doubleF n bs a b x = (r, bs')) :
    Calls Try.prog 14 #[.pointer (some ⟨g, 0, none⟩), .int .i64 a, .int .i64 b, .int .i64 x] W fun e w' => e = .returned (.int .i64 r) ∧ ∃ P', Fresh W0 w' P' g n bs' := by
  have := h.net.double a b x
  rw [hp] at this
  exact this.mono (fun e w' ⟨P', he, h1, h2⟩ => ⟨he, P', h.next h1 h2⟩)
theorem Fresh.len {W0 W : World} {P : Nat → Prop} {g n : Nat} {bs : List (List Frame)} (h : Fresh W0 W P g n bs) {r : Nat} (hr : countF bs (n * n) = r) :
    Calls Try.prog 12 #[.pointer (some ⟨g, 0, none⟩)] W fun e w' => e = .returned (.int .i64 (r : Int)) ∧ Fresh W0 w' P g n bs := by
  have := h.net.len
  rw [hr] at this
  exact this.mono (fun e w' ⟨he, h1⟩ => ⟨he, h.on h1⟩)
theorem Fresh.wait {W0 W : World} {P : Nat → Prop} {g n : Nat} {bs : List (List Frame)} (h : Fresh W0 W P g n bs) (a b : Int) {r : Nat} (hr : waitF n bs a b = r) :
    Calls Try.prog 15 #[.pointer (some ⟨g, 0, none⟩), .int .i64 a, .int .i64 b] W fun e w' => e = .returned (.int .i64 (r : Int)) ∧ Fresh W0 w' P g n bs := by
  have := wait_calls h.net.i a b
  rw [hr] at this
  exact this.mono (fun e w' ⟨he, nd, hd⟩ => by subst hd; exact ⟨he, h.on (pw_below_drewN (Below.refl _ _) nd)⟩)
theorem Fresh.deliver {W0 W : World} {P : Nat → Prop} {g n : Nat} {bs : List (List Frame)} (h : Fresh W0 W P g n bs) (a b x : Int) {l : List Int} {r : Int} {bs' : List (List Frame)} (hp : peekF n bs a b x = (l, r)) (hb : (loseF n bs a b x).2 = bs') :
    Calls Try.prog 16 #[.pointer (some ⟨g, 0, none⟩), .int .i64 a, .int .i64 b, .int .i64 x] W fun e w' => ∃ A c, e = .returned (.tuple #[.slice A l.length c, .int .i64 r]) ∧ (∃ P', Fresh W0 w' P' g n bs') ∧ Sem.run Try.prog (convert 22 9 (.slice A l.length c)) w' = .ok (.string (strOfNums l)) w' := by
  have := h.net.deliver a b x
  rw [hp, hb] at this
  refine this.mono (fun e w' ⟨v, P', he, h1, h2, h3⟩ => ?_)
  obtain ⟨A, c, rfl⟩ := Kd.R_slice h3
  exact ⟨A, c, he, ⟨P', h.next h1 h2⟩, str_of (Kd.R_V h3 (base' := 0))⟩
theorem Fresh.awake {W0 W : World} {P : Nat → Prop} {g n : Nat} {bs : List (List Frame)} (h : Fresh W0 W P g n bs) : Calls Try.prog 13 #[] W fun e w' => e = .returned (.bool true) ∧ Below W0.heap.size W0 w' :=
  (awake_calls W).mono (fun e w' ⟨he, hb⟩ => ⟨he, h.below.trans (hb.mono h.below.size)⟩)
theorem next_eq {i : Nat} (h : wrap64 ((i : Int) + 1) = (i : Int) + 1) : Value.int .i64 (wrap64 ((i : Int) + 1)) = Value.int .i64 ((i + 1 : Nat) : Int) := by rw [h, Int.natCast_succ]
theorem dec_lt {i q : Nat} (h : i < q) (hw : wrap64 ((i : Int) + 1) = (i : Int) + 1) : q - (intOf (Value.int .i64 (wrap64 ((i : Int) + 1)))).toNat < q - (intOf (Value.int .i64 (i : Int))).toNat := by
  rw [hw]
  show q - ((i : Int) + 1).toNat < q - (i : Int).toNat
  omega
end Go.Proofs.Ytchepjbdaojidaa.PBags
namespace Go.Proofs.Ytchepjbdaojidaa.PBags
open Go.RowKit Go.Proofs.YtchepjbdaojidaaW.PrintWords Go.Proofs.YtchepjbdaojidaaW.PrintLast Go.Proofs.YtchepjbdaojidaaW.PrintMore
attribute [local go_sem] max2_int min2_int max_two min_two max_three min_three max_four min_four
set_option linter.unusedVariables false
set_option linter.unusedSimpArgs false

theorem bits_ne {b m : Int} (hb : 0 ≤ b ∧ b ≤ 255) (hm : m % 256 ≠ 0) : Go.bits .xor .u8 b (m % 256 % 256) ≠ b := by
  obtain ⟨b, rfl⟩ : ∃ k : Nat, b = (k : Int) := ⟨b.toNat, by omega⟩
  obtain ⟨r, hr⟩ : ∃ k : Nat, m % 256 % 256 = (k : Int) := ⟨(m % 256 % 256).toNat, by omega⟩
  rw [hr, u8_xor_nat b r (by omega) (by omega)]
  intro h
  have h2 : b ^^^ r = b := Int.ofNat.inj h
  have h3 : r = 0 := by
    have := congrArg (fun z => b ^^^ z) h2
    simpa [← Nat.xor_assoc] using this
  omega
/-- How many places of the first i differ. -/
def turned (p : Int) (i : Nat) : Nat := if p.toNat < i then 1 else 0
theorem turned_in {p : Int} {i n : Nat} (h : i < n) (hp : i = p.toNat) : turned p (i + 1) = turned p i + 1 := by unfold turned; rw [if_pos (by omega), if_neg (by omega)]
theorem turned_not {p : Int} {i : Nat} (hp : i ≠ p.toNat) : turned p (i + 1) = turned p i := by
  unfold turned
  by_cases h : p.toNat < i
  · rw [if_pos h, if_pos (by omega)]
  · rw [if_neg h, if_neg (by omega)]
theorem turned_all {p : Int} {n : Nat} (h0 : 0 ≤ p) (h : p < n) : turned p n = 1 := if_pos (by omega)
theorem turn_ok {l u : List Int} {p m : Int} (h : turnF l p m = (u, 0)) (hb : ∀ x ∈ l, 0 ≤ x ∧ x ≤ 255) : 0 ≤ p ∧ p < l.length ∧ u.length = l.length ∧ (∀ i : Nat, i ≠ p.toNat → u.getD i 0 = l.getD i 0) ∧ u.getD p.toNat 0 ≠ l.getD p.toNat 0 := by
  unfold turnF at h
  split at h
  · injection h with _ h; cases h
  · split at h
    · injection h with _ h; cases h
    · rename_i h1 h2
      injection h with h _
      subst h
      have hp : p.toNat < l.length := by omega
      refine ⟨by omega, by omega, List.length_set, fun i hi => ?_, ?_⟩
      · rw [List.getD_eq_getElem?_getD, List.getElem?_set_ne (Ne.symm hi), ← List.getD_eq_getElem?_getD]
      · rw [List.getD_eq_getElem?_getD, List.getElem?_set_self hp]
        show Go.bits .xor .u8 (l.getD p.toNat 0) (m % 256 % 256) ≠ _
        refine bits_ne ?_ h2
        rw [List.getD_eq_getElem?_getD, List.getElem?_eq_getElem hp]
        exact hb _ (List.getElem_mem hp)
theorem byte_at {w : World} {A : Option Addr} {n : Nat} {xs : List Int} (h : Kd.C (Kd.int .u8) w A n xs) (i : Nat) (hi : i < n) : ∃ ad, A = some ad ∧ w.cell? (ad.add i) = some (.int .u8 (xs.getD i 0)) := by
  obtain ⟨ad, c, e, hl, hK, hc⟩ := Kd.C_get h 0 (i : Int) (Int.natCast_nonneg _) (Int.ofNat_lt.2 hi)
  have hK' : c = [.int .u8 (xs.getD (i : Int).toNat 0)] := hK
  subst hK'
  refine ⟨ad, e, ?_⟩
  have := hc 0 _ rfl
  rw [Int.toNat_natCast] at this
  rw [← this]
  show _ = w.cell? (ad.add (i * 1 + 0))
  rw [Nat.mul_one, Nat.add_zero]
/-- A net of two with the frames fs from 1 to 0. -/
def oneB (fs : List Frame) : List (List Frame) := [[], [], fs, []]
section
variable {f : Frame} {fs : List Frame} {l u : List Int}
theorem one_put (hf : f.1.length ≤ 65545) : putF 2 (List.replicate (2 * 2) []) 1 0 f = (0, oneB [f]) := by
  unfold putF
  rw [if_pos (show linkF 2 1 0 = 0 by decide), if_neg (by omega), if_neg (show ¬ ((List.replicate (2 * 2) ([] : List Frame)).getD (key 2 1 0) []).length = 256 from fun h => absurd (show (0 : Nat) = 256 from h) (by decide))]
  rfl
theorem one_long {bs : List (List Frame)} (hf : 65545 < f.1.length) : putF 2 bs 1 0 f = (3, bs) := by
  unfold putF
  rw [if_pos (show linkF 2 1 0 = 0 by decide), if_pos hf]
theorem one_frame {i : Int} (h0 : 0 ≤ i) (h : i < fs.length) : frameF 2 (oneB fs) 1 0 i = 0 := by
  unfold frameF
  rw [if_pos (show linkF 2 1 0 = 0 by decide), show (oneB fs).getD (key 2 1 0) [] = fs from rfl, if_neg (by omega)]
theorem one_spoil_bad {p m e : Int} (ht : turnF l p m = (u, e)) (he : e ≠ 0) : spoilF 2 (oneB [(l, false)]) 1 0 0 p m = (e, oneB [(l, false)]) := by
  unfold spoilF
  have hfa : frameAt 2 (oneB [(l, false)]) 1 0 0 = (l, false) := rfl
  rw [if_pos (one_frame (Int.le_refl 0) (by simp)), hfa, if_neg (show ¬ false = true by decide)]
  show (if (turnF l p m).2 = 0 then _ else ((turnF l p m).2, _)) = _
  rw [ht, if_neg he]
theorem one_spoil {p m : Int} (ht : turnF l p m = (u, 0)) : spoilF 2 (oneB [(l, false)]) 1 0 0 p m = (0, oneB [(u, true)]) := by
  unfold spoilF
  have hfa : frameAt 2 (oneB [(l, false)]) 1 0 0 = (l, false) := rfl
  rw [if_pos (one_frame (Int.le_refl 0) (by simp)), hfa, if_neg (show ¬ false = true by decide)]
  show (if (turnF l p m).2 = 0 then (0, (oneB [(l, false)]).set 2 ([(l, false)].set 0 ((turnF l p m).1, true))) else _) = _
  rw [ht]
  rfl
theorem one_again {i p m : Int} (h0 : 0 ≤ i) (h : i < fs.length) (hs : (fs.getD i.toNat ([], false)).2 = true) : spoilF 2 (oneB fs) 1 0 i p m = (5, oneB fs) := by
  unfold spoilF
  rw [if_pos (one_frame h0 h), if_pos (show (frameAt 2 (oneB fs) 1 0 i).2 = true from hs)]
theorem one_peek (b : Bool) : peekF 2 (oneB [(u, b)]) 1 0 0 = (u, 0) := by
  unfold peekF
  rw [if_pos (one_frame (Int.le_refl 0) (by simp))]
  rfl
theorem one_double (b : Bool) (hu : u.length ≤ 65545) : doubleF 2 (oneB [(u, b)]) 1 0 0 = (0, oneB [(u, b), (u, b)]) := by
  unfold doubleF
  rw [if_pos (one_frame (Int.le_refl 0) (by simp))]
  unfold putF
  have hfa : (((oneB [(u, b)]).getD (key 2 1 0) []).getD (0 : Int).toNat ([], false)) = (u, b) := rfl
  rw [hfa, if_pos (show linkF 2 1 0 = 0 by decide), if_neg (show ¬ 65545 < u.length by omega), if_neg (show ¬ ((oneB [(u, b)]).getD (key 2 1 0) []).length = 256 from fun h => absurd (show (1 : Nat) = 256 from h) (by decide))]
  rfl
theorem one_come (b : Bool) : peekF 2 (oneB [(u, b), (u, b)]) 1 0 1 = (u, 0) ∧ (loseF 2 (oneB [(u, b), (u, b)]) 1 0 1).2 = oneB [(u, b)] := by
  unfold peekF loseF
  rw [if_pos (one_frame (by decide) (by simp)), if_pos (one_frame (by decide) (by simp))]
  exact ⟨rfl, rfl⟩
theorem one_last (b : Bool) : peekF 2 (oneB [(u, b)]) 1 0 0 = (u, 0) ∧ (loseF 2 (oneB [(u, b)]) 1 0 0).2 = oneB [] := by
  unfold peekF loseF
  rw [if_pos (one_frame (by decide) (by simp)), if_pos (one_frame (by decide) (by simp))]
  exact ⟨rfl, rfl⟩
end
/-- A net of new blocks alone, and rows of bytes that it does not touch. -/
structure Hold (W0 W : World) (P : Nat → Prop) (g n : Nat) (bs : List (List Frame)) (H : List (Value × List Int)) : Prop where
  net : Net W P g n bs
  went : Went W0 (fun _ => False) W P
  held : ∀ x ∈ H, ∃ ok : Nat → Prop, Kd.V (Kd.int .u8) 5 W 0 ok x.1 x.2 ∧ ∀ k, ok k → ¬ P k ∧ k < W.heap.size
section
variable {W0 W W' : World} {P P' : Nat → Prop} {g n c : Nat} {bs bs' : List (List Frame)} {H : List (Value × List Int)} {A : Option Addr} {l : List Int} {r : Int}
theorem Hold.next (h : Hold W0 W P g n bs H) (hN : Net W' P' g n bs') (hw : Went W P W' P') : Hold W0 W' P' g n bs' H :=
  ⟨hN, h.went.trans hw, fun x hx => by
    obtain ⟨ok, h1, h2⟩ := h.held x hx
    exact ⟨ok, V_went h1 hw (fun k hk => (h2 k hk).1), fun k hk => ⟨hw.apart (fun k hk => (h2 k hk).1) (fun k hk => (h2 k hk).2) k hk, Nat.lt_of_lt_of_le (h2 k hk).2 hw.kept.size⟩⟩⟩
theorem Hold.on (h : Hold W0 W P g n bs H) (hb : Below W.heap.size W W') : Hold W0 W' P g n bs H := h.next (h.net.below hb) (Went.below hb P)
theorem Hold.below (h : Hold W0 W P g n bs H) : Below W0.heap.size W0 W := h.went.fresh.2
theorem Hold.add (h : Hold W0 W P g n bs H) {ok : Nat → Prop} {v : Value} (hV : Kd.V (Kd.int .u8) 5 W 0 ok v l) (ha : ∀ k, ok k → ¬ P k) : Hold W0 W P g n bs ((v, l) :: H) :=
  ⟨h.net, h.went, fun x hx => by
    rcases List.mem_cons.1 hx with rfl | hx
    · exact ⟨_, Kd.V_bound hV, fun k hk => ⟨ha k hk.1, hk.2⟩⟩
    · exact h.held x hx⟩
theorem Hold.bytes (h : Hold W0 W P g n bs H) (hm : (Value.slice A l.length c, l) ∈ H) : Kd.C (Kd.int .u8) W A l.length l := by
  obtain ⟨ok, h1, _⟩ := h.held _ hm
  exact (Kd.V_reads' h1).2.2
theorem Hold.cap (h : Hold W0 W P g n bs H) (hm : (Value.slice A l.length c, l) ∈ H) : l.length ≤ c := by
  obtain ⟨ok, h1, _⟩ := h.held _ hm
  exact (Kd.V_reads' h1).2.1
theorem Hold.str (h : Hold W0 W P g n bs H) (hm : (Value.slice A l.length c, l) ∈ H) : Sem.run Try.prog (convert 22 9 (.slice A l.length c)) W = .ok (.string (strOfNums l)) W := by
  obtain ⟨ok, h1, _⟩ := h.held _ hm
  exact str_of h1
theorem Hold.send (h : Hold W0 W P g n bs H) (hm : (Value.slice A l.length c, l) ∈ H) (a b : Int) (hp : putF n bs a b (l, false) = (r, bs')) :
    Calls Try.prog 11 #[.pointer (some ⟨g, 0, none⟩), .int .i64 a, .int .i64 b, .slice A l.length c] W fun e w' => e = .returned (.int .i64 r) ∧ ∃ P', Hold W0 w' P' g n bs' H := by
  have := h.net.send a b A c l (h.bytes hm) (h.cap hm)
  rw [hp] at this
  exact this.mono (fun e w' ⟨P', he, h1, h2⟩ => ⟨he, P', h.next h1 h2⟩)
theorem Hold.double (h : Hold W0 W P g n bs H) (a b x : Int) (hp : doubleF n bs a b x = (r, bs')) :
    Calls Try.prog 14 #[.pointer (some ⟨g, 0, none⟩), .int .i64 a, .int .i64 b, .int .i64 x] W fun e w' => e = .returned (.int .i64 r) ∧ ∃ P', Hold W0 w' P' g n bs' H := by
  have := h.net.double a b x
  rw [hp] at this
  exact this.mono (fun e w' ⟨P', he, h1, h2⟩ => ⟨he, P', h.next h1 h2⟩)
theorem Hold.spoil (h : Hold W0 W P g n bs H) (a b x p m : Int) (hp : spoilF n bs a b x p m = (r, bs')) :
    Calls Try.prog 25 #[.pointer (some ⟨g, 0, none⟩), .int .i64 a, .int .i64 b, .int .i64 x, .int .i64 p, .int .i64 m] W fun e w' => e = .returned (.int .i64 r) ∧ ∃ P', Hold W0 w' P' g n bs' H := by
  have := h.net.spoil a b x p m
  rw [hp] at this
  exact this.mono (fun e w' ⟨P', he, h1, h2⟩ => ⟨he, P', h.next h1 h2⟩)
theorem Hold.deliver (h : Hold W0 W P g n bs H) (a b x : Int) (hp : peekF n bs a b x = (l, r) ∧ (loseF n bs a b x).2 = bs') :
    Calls Try.prog 16 #[.pointer (some ⟨g, 0, none⟩), .int .i64 a, .int .i64 b, .int .i64 x] W fun e w' => ∃ A c, e = .returned (.tuple #[.slice A l.length c, .int .i64 r]) ∧ ∃ P', Hold W0 w' P' g n bs' ((.slice A l.length c, l) :: H) := by
  have := h.net.deliver a b x
  rw [hp.1, hp.2] at this
  refine this.mono (fun e w' ⟨v, P', he, h1, h2, h3⟩ => ?_)
  obtain ⟨A, c, rfl⟩ := Kd.R_slice h3
  exact ⟨A, c, he, P', (h.next h1 h2).add (Kd.R_V h3 (base' := 0)) (fun k hk => hk)⟩
theorem Hold.peek (h : Hold W0 W P g n bs H) (a b x : Int) (hp : peekF n bs a b x = (l, r)) :
    Calls Try.prog 20 #[.pointer (some ⟨g, 0, none⟩), .int .i64 a, .int .i64 b, .int .i64 x] W fun e w' => ∃ A c, e = .returned (.tuple #[.slice A l.length c, .int .i64 r]) ∧ Hold W0 w' P g n bs ((.slice A l.length c, l) :: H) := by
  have := peek_calls h.net.i h.net.small a b x
  rw [hp] at this
  refine this.mono (fun e w' ⟨v, he, hr, hb⟩ => ?_)
  obtain ⟨A, c, rfl⟩ := Kd.R_slice hr
  refine ⟨A, c, he, (h.on hb).add (Kd.R_V (Kd.R_reok rfl hr (ok := fun k => W.heap.size ≤ k) (Kd.R_base hr)) (base' := 0)) (fun k hk hp => ?_)⟩
  have := h.net.lt k hp
  omega
theorem Hold.len (h : Hold W0 W P g n bs H) {r : Nat} (hr : countF bs (n * n) = r) :
    Calls Try.prog 12 #[.pointer (some ⟨g, 0, none⟩)] W fun e w' => e = .returned (.int .i64 (r : Int)) ∧ Hold W0 w' P g n bs H := by
  have := h.net.len
  rw [hr] at this
  exact this.mono (fun e w' ⟨he, h1⟩ => ⟨he, h.on h1⟩)
theorem Hold.awake (h : Hold W0 W P g n bs H) : Calls Try.prog 13 #[] W fun e w' => e = .returned (.bool true) ∧ Below W0.heap.size W0 w' :=
  (awake_calls W).mono (fun e w' ⟨he, hb⟩ => ⟨he, h.below.trans (hb.mono h.below.size)⟩)
end
def bsp.T19 : Bool × List (List Nat × List Nat) := (true, [([], []), ([], []), ([0, 1], [0, 1]), ([2], [2]), ([], []), ([], []), ([4, 5], [4, 5]), ([6], [6]), ([3, 7], [3, 7])])
def bsp.B19 : List Nat := [0, 0, 3, 7, 0, 0, 48, 112, 255]
theorem bsp.tab19 : rtab .any (opsOf Try.f7 19) = bsp.T19 := by kernel_rfl
theorem bsp.bits19 : waitsOk bsp.T19.2 bsp.B19 = true := by kernel_rfl
set_option maxHeartbeats 8000000 in
set_option maxRecDepth 100000 in
theorem bagsSpoilt_calls (W : World) (A : Option Addr) (c : Nat) (l : List Int) (p m : Int) (hl : Kd.C (Kd.int .u8) W A l.length l) (hc : l.length ≤ c) (hlen : l.length ≤ 140737488351232) (hby : ∀ x ∈ l, 0 ≤ x ∧ x ≤ 255) :
    Calls Try.prog 7 #[.slice A l.length c, .int .i64 p, .int .i64 m] W fun e W' => e = .returned (.bool true) ∧ Below W.heap.size W W' := by
  have HV : Aside0 (Kd.V (Kd.int .u8) 5 W 0 (fun k => k < W.heap.size) (.slice A l.length c) l) := ⟨Kd.V_mk (e := 5) (base := 0) hc (Kd.C_F (Kd.heap_int _) hl)⟩
  have HCC := Aside0.mk hc
  have HBY := Aside0.mk hby
  have HNW := Aside0.mk (Net.new W 2 (by decide) (by decide))
  obtain ⟨⟨u, e2⟩, ht⟩ : ∃ t, turnF l p m = t := ⟨_, rfl⟩
  have hts := turn_ref (l := l) (by omega) p m 0
  rw [ht] at hts
  have HTS := Aside0.mk hts
  have HT := Aside0.mk ht
  clear ht hts
  go_enter Try.func7, Try.ntmps7
  go_wp2_with (fail)
  refine HNW.out.mono ?_
  rintro e w1 ⟨g, P1, rfl, hN1, hW1⟩
  have HF0 : Aside0 (Hold W w1 P1 g 2 (List.replicate (2 * 2) []) []) := ⟨⟨hN1, hW1, fun x hx => by cases hx⟩⟩
  have HF1 := Aside0.mk (HF0.out.add (Kd.V_below HV.out hW1.fresh.2) (fun k hk hp => by have := hW1.fresh.1 k hp; omega))
  clear hN1 hW1 HNW HF0
  have HSP := Aside0.mk (topiaryref04_Spoil.calls 1 A c l p m u e2 w1 (HF1.out.bytes (.head _)) HCC.out HTS.out)
  go_wp2_with (fail)
  refine HSP.out.mono ?_
  rintro e wa ⟨vu, rfl, hru, hba⟩
  obtain ⟨Au, cu, rfl⟩ := Kd.R_slice hru
  have HF2 := Aside0.mk ((HF1.out.on hba).add (Kd.R_V (Kd.R_reok rfl hru (ok := fun k => w1.heap.size ≤ k) (Kd.R_base hru)) (base' := 0)) (fun k hk hp => by have := HF1.out.net.lt k hp; omega))
  clear hru hba HSP HF1
  by_cases hbig : 65545 < l.length
  · have e1 : ((65545 : Int) < (l.length : Int)) = True := eq_true (by omega)
    have e1' : (65545 < l.length) = True := eq_true hbig
    have HP := Aside0.mk hbig
    clear hl hc hbig hlen hby
    have HC_ := Aside0.mk (HF2.out.send (A := A) (c := c) (.tail _ (.head _)) 1 0 (one_long HP.out))
    go_wp2_with (fail)
    refine HC_.out.mono ?_
    rintro e w3 ⟨rfl, P3, h_⟩
    have HF3 := Aside0.mk h_
    clear h_ HC_
    have HAW := Aside0.mk HF3.out.awake
    go_wp2_with (fail)
    refine HAW.out.mono ?_
    rintro e w' ⟨rfl, hb⟩
    have HB := Aside0.mk hb
    clear hb HAW
    go_wp2
    go_ret
    exact ⟨rfl, HB.out⟩
  have HS : Aside0 (l.length ≤ 65545) := ⟨Nat.le_of_not_lt hbig⟩
  clear hl hc hbig hlen hby
  have HC_ := Aside0.mk (HF2.out.send (A := A) (c := c) (.tail _ (.head _)) 1 0 (one_put HS.out))
  go_wp2_with (fail)
  refine HC_.out.mono ?_
  rintro e w3 ⟨rfl, P3, h_⟩
  have HF3 := Aside0.mk h_
  clear h_ HC_
  by_cases hbad : e2 = 0
  · subst hbad
    have HTO := Aside0.mk (turn_ok HT.out HBY.out)
    have hul := HTO.out.2.2.1
    have HUL : Aside0 (u.length ≤ 65545) := ⟨by rw [hul]; exact HS.out⟩
    clear hul
    have HC_ := Aside0.mk (HF3.out.spoil 1 0 0 p m (one_spoil HT.out))
    go_wp2_with (fail)
    refine HC_.out.mono ?_
    rintro e w4 ⟨rfl, P4, h_⟩
    have HF4 := Aside0.mk h_
    clear h_ HC_
    have HPK := Aside0.mk (HF4.out.peek 1 0 0 (one_peek true))
    go_wp2_with (fail)
    refine HPK.out.mono ?_
    rintro e w5 ⟨A5, c5, rfl, h_⟩
    have HF5 := Aside0.mk h_
    clear h_ HPK
    have cv1 := HF5.out.str (.head _)
    have cv2 := HF5.out.str (A := Au) (c := cu) (.tail _ (.head _))
    have HC_ := Aside0.mk (HF5.out.double 1 0 0 (one_double true HUL.out))
    go_wp2_with (fail)
    refine HC_.out.mono ?_
    rintro e w6 ⟨rfl, P6, h_⟩
    have HF6 := Aside0.mk h_
    clear h_ HC_
    clear cv1 cv2
    have HC_ := Aside0.mk (HF6.out.spoil 1 0 0 p m (one_again (Int.le_refl 0) (by simp) rfl))
    go_wp2_with (fail)
    refine HC_.out.mono ?_
    rintro e w7 ⟨rfl, P7, h_⟩
    have HF7 := Aside0.mk h_
    clear h_ HC_
    have HC_ := Aside0.mk (HF7.out.spoil 1 0 1 0 1 (one_again (by decide) (by simp) rfl))
    go_wp2_with (fail)
    refine HC_.out.mono ?_
    rintro e w8 ⟨rfl, P8, h_⟩
    have HF8 := Aside0.mk h_
    clear h_ HC_
    have HC_ := Aside0.mk (HF8.out.deliver 1 0 1 (one_come true))
    go_wp2_with (fail)
    refine HC_.out.mono ?_
    rintro e w9 ⟨A9, c9, rfl, P9, h_⟩
    have HF9 := Aside0.mk h_
    clear h_ HC_
    have HC_ := Aside0.mk (HF9.out.deliver 1 0 0 (one_last true))
    go_wp2_with (fail)
    refine HC_.out.mono ?_
    rintro e wx ⟨Ax, cx, rfl, Px, h_⟩
    have HFx := Aside0.mk h_
    clear h_ HC_
    go_wp2_with (fail)
    go_loopw [18, 19] (fun v18 v19 wr => ∃ i : Nat, v19 = .int .i64 (i : Int) ∧ v18 = .int .i64 ((turned p i : Nat) : Int) ∧ Aside0 (i ≤ l.length) ∧ Aside0 (Below wx.heap.size wx wr)) (fun _ v19 _ => l.length - (intOf v19).toNat)
    case atStart => exact ⟨0, rfl, rfl, ⟨Nat.zero_le _⟩, ⟨Below.refl _ _⟩⟩
    case round =>
      rename World => wo
      obtain ⟨i, rfl, rfl, HI, HB⟩ := hrel
      have HFo := Aside0.mk (HFx.out.on HB.out)
      by_cases hlt : i < l.length
      · have b1 : (0 ≤ (i : Int)) = True := eq_true (Int.natCast_nonneg _)
        have b2 : ((i : Int) < (l.length : Int)) = True := eq_true (Int.ofNat_lt.2 hlt)
        have b3 : (i < l.length) = True := eq_true hlt
        have b4 : ((i : Int) < (u.length : Int)) = True := eq_true (by rw [HTO.out.2.2.1]; exact Int.ofNat_lt.2 hlt)
        have b5 : (i < u.length) = True := eq_true (by rw [HTO.out.2.2.1]; exact hlt)
        have HLT := Aside0.mk hlt
        have HFd := Aside0.mk (HFo.out.on (below_drew (Below.refl _ wo)))
        obtain ⟨ad9, hA9, x9⟩ := byte_at (HFd.out.bytes (A := A9) (c := c9) (l := u) (.tail _ (.head _))) i (by rw [HTO.out.2.2.1]; exact hlt)
        obtain ⟨ad, hA, xl⟩ := byte_at (HFd.out.bytes (A := A) (c := c) (l := l) (.tail _ (.tail _ (.tail _ (.tail _ (.head _)))))) i hlt
        subst hA9 hA
        obtain ⟨ub, hub⟩ : ∃ z, u.getD i 0 = z := ⟨_, rfl⟩
        obtain ⟨lb, hlb⟩ : ∃ z, l.getD i 0 = z := ⟨_, rfl⟩
        rw [hub] at x9
        rw [hlb] at xl
        have HUB := Aside0.mk (And.intro hub hlb)
        clear hub hlb
        clear hlt
        go_wp2_with (fail)
        have HS9 : Aside0 (wo.drew.cell? (ad9.add i) = some (.int .u8 ub) ∧ wo.drew.cell? (ad.add i) = some (.int .u8 lb)) := ⟨x9, xl⟩
        refine start_ (n := 9) (S := (fun w' => w'.cell? (ad9.add i) = some (.int .u8 ub) ∧ w'.cell? (ad.add i) = some (.int .u8 lb))) (ds := []) #[false, false, false, false, false, false, false, false, false] (by kernel_rfl) rfl rfl (HS9.out) (fun hHeld => ?_)
        refine with_tabW bsp.tab19 bsp.bits19 (fun HT_ HW_ => ?_)
        refine pure_ (i := 0) (N := (some 119)) (v := ?_) (a' := ?_) #[true, false, false, false, false, false, false, false, false] rfl rfl (any_of HT_.out (by kernel_rfl)) (fun _ _ _ h => h) (Or.inl ⟨by rfl, ?_⟩) ?_ ?_
        rotate_left
        · intro w'
          go_simp
          with_reducible rfl
        rotate_left
        · simp only [Act.put, List.setIfInBounds_toArray, List.set_cons_zero, List.set_cons_succ, i64_w, i32_w]
          rfl
        refine pure_ (i := 1) (N := (some 120)) (v := ?_) (a' := ?_) #[true, true, false, false, false, false, false, false, false] rfl rfl (any_of HT_.out (by kernel_rfl)) (fun _ _ _ h => h) (Or.inl ⟨by rfl, ?_⟩) ?_ ?_
        rotate_left
        · intro w'
          go_simp
          with_reducible rfl
        rotate_left
        · simp only [Act.put, List.setIfInBounds_toArray, List.set_cons_zero, List.set_cons_succ, i64_w, i32_w]
          rfl
        refine pure_ (i := 2) (N := (some 121)) (v := ?_) (a' := ?_) #[true, true, true, false, false, false, false, false, false] rfl rfl (any_of HT_.out (by kernel_rfl)) (fun _ _ _ h => h) (Or.inl ⟨by rfl, ?_⟩) ?_ ?_
        rotate_left
        · intro w'
          go_simp
          with_reducible rfl
        rotate_left
        · simp only [Act.put, List.setIfInBounds_toArray, List.set_cons_zero, List.set_cons_succ, i64_w, i32_w]
          rfl
        refine pure_ (i := 4) (N := (some 123)) (v := ?_) (a' := ?_) #[true, true, true, false, true, false, false, false, false] rfl rfl (any_of HT_.out (by kernel_rfl)) (fun _ _ _ h => h) (Or.inl ⟨by rfl, ?_⟩) ?_ ?_
        rotate_left
        · intro w'
          go_simp
          with_reducible rfl
        rotate_left
        · simp only [Act.put, List.setIfInBounds_toArray, List.set_cons_zero, List.set_cons_succ, i64_w, i32_w]
          rfl
        refine pure_ (i := 5) (N := (some 124)) (v := ?_) (a' := ?_) #[true, true, true, false, true, true, false, false, false] rfl rfl (any_of HT_.out (by kernel_rfl)) (fun _ _ _ h => h) (Or.inl ⟨by rfl, ?_⟩) ?_ ?_
        rotate_left
        · intro w'
          go_simp
          with_reducible rfl
        rotate_left
        · simp only [Act.put, List.setIfInBounds_toArray, List.set_cons_zero, List.set_cons_succ, i64_w, i32_w]
          rfl
        refine pure_ (i := 6) (N := (some 125)) (v := ?_) (a' := ?_) #[true, true, true, false, true, true, true, false, false] rfl rfl (any_of HT_.out (by kernel_rfl)) (fun _ _ _ h => h) (Or.inl ⟨by rfl, ?_⟩) ?_ ?_
        rotate_left
        · intro w'
          go_simp
          with_reducible rfl
        rotate_left
        · simp only [Act.put, List.setIfInBounds_toArray, List.set_cons_zero, List.set_cons_succ, i64_w, i32_w]
          rfl
        refine take_ (i := 3) (N := (some 122)) (v := ?_) (a' := ?_) #[true, true, true, true, true, true, true, false, false] rfl rfl (take_ofW HT_.out HW_.out (by kernel_rfl)) (fun _ _ _ h => h) (Or.inl ⟨by rfl, ?_⟩) hHeld ?_ ?_
        rotate_left
        · rintro w' ⟨s0, s1⟩
          go_simp
          with_reducible rfl
        rotate_left
        · simp only [Act.put, List.setIfInBounds_toArray, List.set_cons_zero, List.set_cons_succ, i64_w, i32_w]
          rfl
        refine take_ (i := 7) (N := (some 126)) (v := ?_) (a' := ?_) #[true, true, true, true, true, true, true, true, false] rfl rfl (take_ofW HT_.out HW_.out (by kernel_rfl)) (fun _ _ _ h => h) (Or.inl ⟨by rfl, ?_⟩) hHeld ?_ ?_
        rotate_left
        · rintro w' ⟨s0, s1⟩
          go_simp
          with_reducible rfl
        rotate_left
        · simp only [Act.put, List.setIfInBounds_toArray, List.set_cons_zero, List.set_cons_succ, i64_w, i32_w]
          rfl
        refine pure_ (i := 8) (N := (some 127)) (v := ?_) (a' := ?_) #[true, true, true, true, true, true, true, true, true] rfl rfl (any_of HT_.out (by kernel_rfl)) (fun _ _ _ h => h) (Or.inl ⟨by rfl, ?_⟩) ?_ ?_
        rotate_left
        · intro w'
          go_simp
          with_reducible rfl
        rotate_left
        · simp only [Act.put, List.setIfInBounds_toArray, List.set_cons_zero, List.set_cons_succ, i64_w, i32_w]
          rfl
        refine done_ (done_of HT_.out (by kernel_rfl)) ?_
        have HB2 := Aside0.mk (HB.out.drew)
        have hw_ := wrap_top (m := i) HLT.out (by have := HS.out; omega)
        by_cases hip : i = p.toNat
        · have z1 : (ub == lb) = false := beq_eq_false_iff_ne.2 (by rw [← HUB.out.1, ← HUB.out.2, hip]; exact HTO.out.2.2.2.2)
          have z2 : (ub != lb) = true := by rw [bne, z1]; rfl
          have htr := turned_in HLT.out hip
          have hwt := wrap_next (m := turned p i) (by unfold turned; split <;> decide)
          clear hip
          go_wp2
          go_roundw
          case rel => exact ⟨i + 1, next_eq hw_, by rw [next_eq hwt, htr], ⟨HLT.out⟩, HB2⟩
          case measure => exact dec_lt HLT.out hw_
        · have z1 : (ub == lb) = true := beq_iff_eq.2 (by rw [← HUB.out.1, ← HUB.out.2]; exact HTO.out.2.2.2.1 i hip)
          have z2 : (ub != lb) = false := by rw [bne, z1]; rfl
          have htr := turned_not (p := p) hip
          clear hip
          go_wp2
          go_roundw
          case rel => exact ⟨i + 1, next_eq hw_, by rw [htr], ⟨HLT.out⟩, HB2⟩
          case measure => exact dec_lt HLT.out hw_
      · have b2 : ((i : Int) < (l.length : Int)) = False := eq_false (fun h => hlt (Int.ofNat_lt.1 h))
        have b3 : (i < l.length) = False := eq_false hlt
        have b4 : ((i : Int) < (u.length : Int)) = False := eq_false (by rw [HTO.out.2.2.1]; exact fun h => hlt (Int.ofNat_lt.1 h))
        have b5 : (i < u.length) = False := eq_false (by rw [HTO.out.2.2.1]; exact hlt)
        obtain rfl : i = l.length := by have := HI.out; omega
        have b6 : ((u.length : Int) = (l.length : Int)) = True := eq_true (by rw [HTO.out.2.2.1])
        have b7 : ((u.length : Int) == (l.length : Int)) = true := by rw [HTO.out.2.2.1]; exact beq_self_eq_true _
        have htn := turned_all (n := l.length) HTO.out.1 HTO.out.2.1
        have cv1 := HFo.out.str (A := A9) (c := c9) (l := u) (.tail _ (.head _))
        have cv2 := HFo.out.str (A := Au) (c := cu) (l := u) (.tail _ (.tail _ (.tail _ (.head _))))
        have cv3 := HFo.out.str (A := Ax) (c := cx) (l := u) (.head _)
        clear hlt HI
        have HC_ := Aside0.mk (HFo.out.len (r := 0) rfl)
        go_wp2_with (fail)
        refine HC_.out.mono ?_
        rintro e wy ⟨rfl, h_⟩
        have HFy := Aside0.mk h_
        clear h_ HC_
        have HAW := Aside0.mk HFy.out.awake
        go_wp2_with (fail)
        refine HAW.out.mono ?_
        rintro e w' ⟨rfl, hb⟩
        have HB := Aside0.mk hb
        clear hb HAW
        go_wp2
        go_ret
        exact ⟨rfl, HB.out⟩
  · have z2 : (e2 == 0) = false := beq_eq_false_iff_ne.2 hbad
    have z3 : (e2 != 0) = true := by rw [bne, z2]; rfl
    have HBD := Aside0.mk hbad
    clear hbad
    have HC_ := Aside0.mk (HF3.out.spoil 1 0 0 p m (one_spoil_bad HT.out HBD.out))
    go_wp2_with (fail)
    refine HC_.out.mono ?_
    rintro e w4 ⟨rfl, P4, h_⟩
    have HF4 := Aside0.mk h_
    clear h_ HC_
    have HPK := Aside0.mk (HF4.out.peek 1 0 0 (one_peek false))
    go_wp2_with (fail)
    refine HPK.out.mono ?_
    rintro e w5 ⟨A5, c5, rfl, h_⟩
    have HF5 := Aside0.mk h_
    clear h_ HPK
    have cv1 := HF5.out.str (.head _)
    have cv2 := HF5.out.str (A := A) (c := c) (l := l) (.tail _ (.tail _ (.head _)))
    have HAW := Aside0.mk HF5.out.awake
    go_wp2_with (fail)
    refine HAW.out.mono ?_
    rintro e w' ⟨rfl, hb⟩
    have HB := Aside0.mk hb
    clear hb HAW
    go_wp2
    go_ret
    exact ⟨rfl, HB.out⟩
end Go.Proofs.Ytchepjbdaojidaa.PBags
