/- A net of new blocks alone, in the midst of a law; a link has room for so many frames, and for frames so long. -/
import Derived.Test.YtchepjbdaojidaaMBagsHc
import Derived.Test.YtchepjbdaojidaaMBagsHb
import Derived.Lib.SlBytesConst
namespace Go.Proofs.Ytchepjbdaojidaa.PBags
open Go.RowKit Go.Proofs.YtchepjbdaojidaaW.PrintWords Go.Proofs.YtchepjbdaojidaaW.PrintLast Go.Proofs.YtchepjbdaojidaaW.PrintMore
attribute [local go_sem] max2_int min2_int max_two min_two max_three min_three max_four min_four
set_option linter.unusedVariables false
set_option linter.unusedSimpArgs false

theorem lose_code {n : Nat} {bs : List (List Frame)} {a b x : Int} : (loseF n bs a b x).1 = frameF n bs a b x := by
  unfold loseF
  split
  · rename_i h; rw [h]
  · rfl
theorem Net.lose2 {w : World} {P : Nat → Prop} {g n : Nat} {bs : List (List Frame)} (h : Net w P g n bs) (a b x : Int) :
    Calls Try.prog 17 #[.pointer (some ⟨g, 0, none⟩), .int .i64 a, .int .i64 b, .int .i64 x] w fun e w' => ∃ P', e = .returned (.int .i64 (frameF n bs a b x)) ∧ Net w' P' g n (loseF n bs a b x).2 ∧ Went w P w' P' := by
  have h_ := h.lose a b x
  rw [lose_code] at h_
  exact h_.mono (fun e w' h => ⟨P, h.1, h.2.1, ⟨h.2.2, fun _ hk => .inl hk⟩⟩)
/-- The bags behind a call. -/
def playF (n : Nat) (bs : List (List Frame)) (kd a b x p m : Int) (l : List Int) : List (List Frame) :=
  if kd = 0 then (putF n bs a b (l, false)).2 else if kd = 1 ∨ kd = 2 then (loseF n bs a b x).2 else if kd = 3 then (doubleF n bs a b x).2 else if kd = 4 then (spoilF n bs a b x p m).2 else bs
/-- The three boxes of play: the document's net, the call, the result. -/
structure PB (w W : World) (n : Nat) (A : Option Addr) (len c : Nat) (kd a b x p m : Int) (Ap : Option Addr) (lp cp : Nat) : Prop where
  net : W.heap[w.heap.size]? = some (.cells #[.int .i64 (n : Int), .slice A len c] 41 (0, 0))
  act : W.heap[w.heap.size + 1]? = some (.cells #[.int .i64 kd, .int .i64 a, .int .i64 b, .int .i64 x, .int .i64 p, .int .i64 m, .slice Ap lp cp] 37 (0, 0))
  res : W.heap[w.heap.size + 2]? = some (.cells #[.int .i64 0, .slice none 0 0] 41 (0, 0))
  size : w.heap.size + 3 ≤ W.heap.size
section
variable {w W W1 : World} {n len c lp cp : Nat} {A Ap : Option Addr} {kd a b x p m : Int}
theorem PB.start (w : World) (n : Nat) (A : Option Addr) (len c : Nat) (kd a b x p m : Int) (Ap : Option Addr) (lp cp : Nat) :
    PB w (((w.alloc (.cells #[.int .i64 (n : Int), .slice A len c] 41)).alloc (.cells #[.int .i64 kd, .int .i64 a, .int .i64 b, .int .i64 x, .int .i64 p, .int .i64 m, .slice Ap lp cp] 37)).alloc (.cells #[.int .i64 0, .slice none 0 0] 41)) n A len c kd a b x p m Ap lp cp :=
  ⟨Mem.alloc_old (Mem.alloc_old (Mem.alloc_new _ _) _) _, Mem.alloc_old (Mem.alloc_new_at _ _ _ (by rw [Mem.alloc_size])) _, Mem.alloc_new_at _ _ _ (by rw [Mem.alloc_size, Mem.alloc_size]), by rw [Mem.alloc_size, Mem.alloc_size, Mem.alloc_size]; exact Nat.le_refl _⟩
theorem PB.below (h : PB w W n A len c kd a b x p m Ap lp cp) (hb : Below W.heap.size W W1) : PB w W1 n A len c kd a b x p m Ap lp cp := by
  have hs := h.size
  exact ⟨(hb.block _ (by omega)).trans h.net, (hb.block _ (by omega)).trans h.act, (hb.block _ (by omega)).trans h.res, Nat.le_trans hs hb.size⟩
theorem PB.kept (h : PB w W n A len c kd a b x p m Ap lp cp) {S : Nat → Prop} (hk : Kept W W1 S) (hS : ∀ i, i < 3 → ¬ S (w.heap.size + i)) : PB w W1 n A len c kd a b x p m Ap lp cp := by
  have hs := h.size
  exact ⟨(hk.2 _ (by omega) (hS 0 (by decide))).trans h.net, (hk.2 _ (by omega) (hS 1 (by decide))).trans h.act, (hk.2 _ (by omega) (hS 2 (by decide))).trans h.res, Nat.le_trans hs hk.1⟩
theorem PB.cells (h : PB w W n A len c kd a b x p m Ap lp cp) : W.cell? ⟨w.heap.size, 0, none⟩ = some (.int .i64 (n : Int)) ∧ W.cell? ⟨w.heap.size, 1, none⟩ = some (.slice A len c) ∧
    W.cell? ⟨w.heap.size + 1, 0, none⟩ = some (.int .i64 kd) ∧ W.cell? ⟨w.heap.size + 1, 1, none⟩ = some (.int .i64 a) ∧ W.cell? ⟨w.heap.size + 1, 2, none⟩ = some (.int .i64 b) ∧ W.cell? ⟨w.heap.size + 1, 3, none⟩ = some (.int .i64 x) ∧
    W.cell? ⟨w.heap.size + 1, 4, none⟩ = some (.int .i64 p) ∧ W.cell? ⟨w.heap.size + 1, 5, none⟩ = some (.int .i64 m) ∧ W.cell? ⟨w.heap.size + 1, 6, none⟩ = some (.slice Ap lp cp) ∧
    W.cell? ⟨w.heap.size + 2, 0, none⟩ = some (.int .i64 0) ∧ W.cell? ⟨w.heap.size + 2, 1, none⟩ = some (.slice none 0 0) ∧ W.frozen? ⟨w.heap.size + 2, 0, none⟩ = false ∧ W.frozen? ⟨w.heap.size + 2, 1, none⟩ = false :=
  ⟨Mem.cell_of h.net 0, Mem.cell_of h.net 1, Mem.cell_of h.act 0, Mem.cell_of h.act 1, Mem.cell_of h.act 2, Mem.cell_of h.act 3, Mem.cell_of h.act 4, Mem.cell_of h.act 5, Mem.cell_of h.act 6, Mem.cell_of h.res 0, Mem.cell_of h.res 1, Mem.free_of h.res 0, Mem.free_of h.res 1⟩
theorem PB.ret (h : PB w W n A len c kd a b x p m Ap lp cp) (v0 v1 : Value) : ((W.setCell ⟨w.heap.size + 2, 0, none⟩ v0).setCell ⟨w.heap.size + 2, 1, none⟩ v1).heap[w.heap.size + 2]? = some (.cells #[v0, v1] 41 (0, 0)) := ret41 h.res v0 v1
end
theorem str_of {W : World} {ok : Nat → Prop} {A : Option Addr} {c : Nat} {l : List Int} (h : Kd.V (Kd.int .u8) 5 W 0 ok (.slice A l.length c) l) : Sem.run Try.prog (convert 22 9 (.slice A l.length c)) W = .ok (.string (strOfNums l)) W :=
  Kd.C_string (dst := 9) (c := c) Try.underlying22 Try.underlying5 Try.underlying9 (Kd.V_reads' h).2.2
theorem str_far {W : World} {A : Option Addr} {b c : Nat} {l : List Int} (h : Kd.V (Kd.int .u8) 5 W 0 (fun k => k ≠ b) (.slice A l.length c) l) (u v : Value) :
    Sem.run Try.prog (convert 22 9 (.slice A l.length c)) ((W.setCell ⟨b, 0, none⟩ u).setCell ⟨b, 1, none⟩ v) = .ok (.string (strOfNums l)) ((W.setCell ⟨b, 0, none⟩ u).setCell ⟨b, 1, none⟩ v) :=
  str_of (Kd.V_far (p := ⟨b, 1, none⟩) (Kd.V_far (p := ⟨b, 0, none⟩) h (fun _ hk => hk) u) (fun _ hk => hk) v)
theorem wrap_top {m L : Nat} (h : m < L) (hL : L ≤ 9223372036854775807) : wrap64 ((m : Int) + 1) = (m : Int) + 1 := by unfold wrap64; omega
theorem put_byte {W : World} {base gp len c : Nat} {ok : Nat → Prop} {lst : List Int} (h : (Kd.int .u8).R 5 W base ok (.slice (some ⟨gp, 0, none⟩) len c) lst) (i : Nat) (x : Int) : (Kd.int .u8).R 5 (W.setCell ⟨gp, i, none⟩ (.int .u8 x)) base ok (.slice (some ⟨gp, 0, none⟩) len c) (lst.set i x) := by
  have := Kd.R_putn h (i : Int) x
  rw [Int.toNat_natCast] at this
  exact this
theorem Net.kept {w w' : World} {P S : Nat → Prop} {g n : Nat} {bs : List (List Frame)} (h : Net w P g n bs) (hk : Kept w w' S) (hS : ∀ k, P k → ¬ S k) : Net w' P g n bs := by
  refine ⟨?_, h.small, fun k hp => Nat.lt_of_lt_of_le (h.lt k hp) hk.1⟩
  obtain ⟨A, c, h1, h2, h3, h4, h5, h6, h7⟩ := h.i
  exact ⟨A, c, (hk.2 g (h.lt g h3) (hS g h3)).trans h1, h2, h3, h4, h5, h6, Kd.S_step h7 (fun k hp hl => hk.2 k hl (hS k hp.1))⟩
theorem room1 {l : List Int} (h : l.length ≤ 140737488351232) : (([] : List Int).length + l.length) * 1 ≤ 140737488355328 := by rw [List.length_nil]; omega
/-- The result is laid: the net and the document's net stay. -/
theorem play_end {w W : World} {P P' Q' : Nat → Prop} {g n : Nat} {bs' : List (List Frame)} {ys' : List S45} {v : Value} (hN : Net W P' g n bs') (hT : Tie n bs' ys') (hV : Kd.V k45 45 W 0 Q' v ys') (hQ : ∀ k, Q' k → ¬ P' k) (hQ2 : ∀ k, Q' k → k ≠ w.heap.size + 2) (hP2 : ∀ k, P' k → k ≠ w.heap.size + 2) (hW : Went w P W P') {Q : Nat → Prop} (hQ3 : ∀ k, Q' k → Q k ∨ w.heap.size ≤ k) (v0 v1 : Value) :
    ∃ P' Q', Net ((W.setCell ⟨w.heap.size + 2, 0, none⟩ v0).setCell ⟨w.heap.size + 2, 1, none⟩ v1) P' g n bs' ∧ Tie n bs' ys' ∧ Kd.V k45 45 ((W.setCell ⟨w.heap.size + 2, 0, none⟩ v0).setCell ⟨w.heap.size + 2, 1, none⟩ v1) 0 Q' v ys' ∧ (∀ k, Q' k → ¬ P' k) ∧ (∀ k, Q' k → Q k ∨ w.heap.size ≤ k) ∧ Went w P ((W.setCell ⟨w.heap.size + 2, 0, none⟩ v0).setCell ⟨w.heap.size + 2, 1, none⟩ v1) P' := by
  have e : ∀ k, k ≠ w.heap.size + 2 → ((W.setCell ⟨w.heap.size + 2, 0, none⟩ v0).setCell ⟨w.heap.size + 2, 1, none⟩ v1).heap[k]? = W.heap[k]? := fun k hk => (Mem.set_other _ _ _ _ hk).trans (Mem.set_other _ _ _ _ hk)
  have es : ((W.setCell ⟨w.heap.size + 2, 0, none⟩ v0).setCell ⟨w.heap.size + 2, 1, none⟩ v1).heap.size = W.heap.size := by rw [Mem.set_size, Mem.set_size]
  refine ⟨P', Q', ⟨?_, hN.small, fun k hk => by rw [es]; exact hN.lt k hk⟩, hT, Kd.V_step hV (fun k hk _ => e k (hQ2 k hk)), hQ, hQ3, ⟨Kept.setCell (Kept.setCell hW.kept (.inr (Nat.le_add_right _ 2)) _) (.inr (Nat.le_add_right _ 2)) _, hW.new⟩⟩
  obtain ⟨A, c, h1, h2, h3, h4, h5, h6, h7⟩ := hN.i
  exact ⟨A, c, (e g (hP2 g h3)).trans h1, h2, h3, h4, h5, h6, Kd.S_step h7 (fun k hk _ => e k (hP2 k hk.1))⟩
end Go.Proofs.Ytchepjbdaojidaa.PBags
namespace Go.Proofs.Ytchepjbdaojidaa.PBags
open Go.RowKit Go.Proofs.YtchepjbdaojidaaW.PrintWords Go.Proofs.YtchepjbdaojidaaW.PrintLast Go.Proofs.YtchepjbdaojidaaW.PrintMore
attribute [local go_sem] max2_int min2_int max_two min_two max_three min_three max_four min_four
set_option linter.unusedVariables false
set_option linter.unusedSimpArgs false
theorem Net.clone {w : World} {P : Nat → Prop} {g n : Nat} {bs : List (List Frame)} (h : Net w P g n bs) :
    Calls Try.prog 26 #[.pointer (some ⟨g, 0, none⟩)] w fun e w' => ∃ g2 P2, e = .returned (.pointer (some ⟨g2, 0, none⟩)) ∧ Net w' P2 g2 n bs ∧ (∀ k, P2 k → w.heap.size ≤ k) ∧ Below w.heap.size w w' :=
  (clone_calls h.i h.small).mono fun e w' ⟨g2, he, h1, h2⟩ => ⟨g2, _, he, Net.of h1 h.small, fun k hk => hk.1, h2⟩
/-- A net of no blocks that were: what is told of it leaves all that was. -/
theorem Went.fresh {w w' : World} {P' : Nat → Prop} (h : Went w (fun _ => False) w' P') : (∀ k, P' k → w.heap.size ≤ k) ∧ Below w.heap.size w w' :=
  ⟨fun k hk => (h.new k hk).elim False.elim id, h.kept.to_below (fun _ h => h.elim)⟩
/-- A literal's bytes. -/
theorem const_C (w : World) (l : List Int) (fr : Nat × Nat) (hl : l.length ≤ 1000) : Kd.C (Kd.int .u8) (w.alloc (.cells (l.map (Value.int .u8)).toArray 5 fr)) (some ⟨w.heap.size, 0, none⟩) l.length l := by
  refine ⟨rfl, by omega, fun _ => ⟨_, rfl, fun j p hj => ⟨[.int .u8 p], rfl, rfl, fun i u hi => ?_⟩⟩⟩
  have h0 : i = 0 := by
    have := (List.getElem?_eq_some_iff.1 hi).1
    simpa using this
  subst h0
  have hu : Value.int .u8 p = u := Option.some.inj hi
  subst hu
  rw [add_at, Nat.zero_add]
  show (w.alloc _).cell? ⟨w.heap.size, j * 1 + 0, none⟩ = _
  rw [Mem.cell_of (Mem.alloc_new w _), Nat.mul_one, Nat.add_zero, List.getElem?_toArray, List.getElem?_map, hj]
  rfl
set_option maxHeartbeats 8000000 in
set_option maxRecDepth 100000 in
theorem awake_calls (w : World) : Calls Try.prog 13 #[] w fun e w' => e = .returned (.bool true) ∧ Below w.heap.size w w' := by
  have HNW := Aside0.mk (Net.new w 2 (by decide) (by decide))
  go_enter Try.func13, Try.ntmps13
  go_wp2_with (fail)
  refine HNW.out.mono ?_
  rintro e w1 ⟨g, P1, rfl, hN1, hW1⟩
  have HN1 := Aside0.mk hN1
  have HW1 := Aside0.mk hW1
  clear hN1 hW1 HNW
  have kc := fun (w : World) (C : Array Value) (n c : Nat) => Lib.run_convert_bytes_const (P := Try.prog) w 22 5 C n c Try.underlying22 Try.underlying5
  have HBL := Aside0.mk (below_alloc (Below.refl w1.heap.size w1) (.cells #[.int .u8 97] 5 (1, 2)))
  have HN2 := Aside0.mk (HN1.out.below HBL.out)
  have HCC := Aside0.mk (const_C w1 [97] (1, 2) (by decide))
  have HS1 := Aside0.mk (HN2.out.send 0 1 _ 1 [97] HCC.out (Nat.le_refl _))
  rw [show (putF 2 (List.replicate (2 * 2) []) 0 1 ([97], false)).1 = 0 from by decide] at HS1
  go_wp2_with (fail)
  refine HS1.out.mono ?_
  rintro e w3 ⟨P3, rfl, hN3, hW3⟩
  have HN3 := Aside0.mk hN3
  have HW3 := Aside0.mk hW3
  have HS2 := Aside0.mk (HN3.out.send 0 0 none 0 [] (Kd.V_reads' (Kd.V_nil (Kd.int .u8) 5 w3 0 (fun _ => True))).2.2 (Nat.le_refl _))
  rw [show (putF 2 (putF 2 (List.replicate (2 * 2) []) 0 1 ([97], false)).2 0 0 ([], false)).1 = 7 from by decide] at HS2
  clear hN3 hW3 HS1 kc
  go_wp2_with (fail)
  refine HS2.out.mono ?_
  rintro e w4 ⟨P4, rfl, hN4, hW4⟩
  have HN4 := Aside0.mk hN4
  have HW4 := Aside0.mk hW4
  have HS3 := Aside0.mk (wait_calls HN4.out.i 0 1)
  rw [show waitF 2 (putF 2 (putF 2 (List.replicate (2 * 2) []) 0 1 ([97], false)).2 0 0 ([], false)).2 0 1 = 1 from by decide] at HS3
  clear hN4 hW4 HS2
  go_wp2_with (fail)
  refine HS3.out.mono ?_
  rintro e w5 ⟨rfl, ⟨nd, rfl⟩⟩
  go_wp2
  go_ret
  exact ⟨rfl, ((((HW1.out.trans (Went.below HBL.out _)).trans HW3.out).trans HW4.out).kept.below (pw_below_drewN (Below.refl _ _) nd)).to_below (fun _ h => h.elim)⟩
end Go.Proofs.Ytchepjbdaojidaa.PBags
namespace Go.Proofs.Ytchepjbdaojidaa.PBags
open Go.RowKit Go.Proofs.YtchepjbdaojidaaW.PrintWords Go.Proofs.YtchepjbdaojidaaW.PrintLast Go.Proofs.YtchepjbdaojidaaW.PrintMore
attribute [local go_sem] max2_int min2_int max_two min_two max_three min_three max_four min_four
set_option linter.unusedVariables false
set_option linter.unusedSimpArgs false

/-- A net of new blocks alone: what came in stays. -/
structure Fresh (W0 W : World) (P : Nat → Prop) (g n : Nat) (bs : List (List Frame)) : Prop where
  net : Net W P g n bs
  went : Went W0 (fun _ => False) W P
theorem Fresh.next {W0 W W' : World} {P P' : Nat → Prop} {g n : Nat} {bs bs' : List (List Frame)} (h : Fresh W0 W P g n bs) (hN : Net W' P' g n bs') (hw : Went W P W' P') : Fresh W0 W' P' g n bs' := ⟨hN, h.went.trans hw⟩
theorem Fresh.on {W0 W W' : World} {P : Nat → Prop} {g n : Nat} {bs : List (List Frame)} (h : Fresh W0 W P g n bs) (hb : Below W.heap.size W W') : Fresh W0 W' P g n bs := ⟨h.net.below hb, h.went.trans (Went.below hb P)⟩
theorem Fresh.below {W0 W : World} {P : Nat → Prop} {g n : Nat} {bs : List (List Frame)} (h : Fresh W0 W P g n bs) : Below W0.heap.size W0 W := h.went.fresh.2
theorem Fresh.bytes {W0 W : World} {P : Nat → Prop} {g n : Nat} {bs : List (List Frame)} (h : Fresh W0 W P g n bs) {A : Option Addr} {c : Nat} {l : List Int} (hv : Kd.V (Kd.int .u8) 5 W0 0 (fun k => k < W0.heap.size) (.slice A l.length c) l) : Kd.C (Kd.int .u8) W A l.length l :=
  (Kd.V_reads' (Kd.V_below hv h.below)).2.2
theorem Fresh.send {W0 W : World} {P : Nat → Prop} {g n : Nat} {bs : List (List Frame)} (h : Fresh W0 W P g n bs) {A : Option Addr} {c : Nat} {l : List Int} (hv : Kd.V (Kd.int .u8) 5 W0 0 (fun k => k < W0.heap.size) (.slice A l.length c) l) (hc : l.length ≤ c) (a b : Int) {r : Int} {bs' : List (List Frame)} (hp : putF n bs a b (l, false) = (r, bs')) :
    Calls Try.prog 11 #[.pointer (some ⟨g, 0, none⟩), .int .i64 a, .int .i64 b, .slice A l.length c] W fun e w' => e = .returned (.int .i64 r) ∧ ∃ P', Fresh W0 w' P' g n bs' := by
  have := h.net.send a b A c l (h.bytes hv) hc
  rw [hp] at this
  exact this.mono (fun e w' ⟨P', he, h1, h2⟩ => ⟨he, P', h.next h1 h2⟩)
theorem Fresh.double {W0 W : World} {P : Nat → Prop} {g n : Nat} {bs : List (List Frame)} (h : Fresh W0 W P g n bs) (a b x : Int) {r : Int} {bs' : List (List Frame)} (hp : doubleF n bs a b x = (r, bs')) :
    Calls Try.prog 14 #[.pointer (some ⟨g, 0, none⟩), .int .i64 a, .int .i64 b, .int .i64 x] W fun e w' => e = .returned (.int .i64 r) ∧ ∃ P', Fresh W0 w' P' g n bs' := by
  have := h.net.double a b x
  rw [hp] at this
  exact this.mono (fun e w' ⟨P', he, h1, h2⟩ => ⟨he, P', h.next h1 h2⟩)
theorem Fresh.len {W0 W : World} {P : Nat → Prop} {g n : Nat} {bs : List (List Frame)} (h : Fresh W0 W P g n bs) {r : Nat} (hr : countF bs (n * n) = r) :
    Calls Try.prog 12 #[.pointer (some ⟨g, 0, none⟩)] W fun e w' => e = .returned (.int .i64 (r : Int)) ∧ Fresh W0 w' P g n bs := by
  have := h.net.len
  rw [hr] at this
  exact this.mono (fun e w' ⟨he, h1⟩ => ⟨he, h.on h1⟩)
theorem Fresh.wait {W0 W : World} {P : Nat → Prop} {g n : Nat} {bs : List (List Frame)} (h : Fresh W0 W P g n bs) (a b : Int) {r : Nat} (hr : waitF n bs a b = r) :
    Calls Try.prog 15 #[.pointer (some ⟨g, 0, none⟩), .int .i64 a, .int .i64 b] W fun e w' => e = .returned (.int .i64 (r : Int)) ∧ Fresh W0 w' P g n bs := by
  have := wait_calls h.net.i a b
  rw [hr] at this
  exact this.mono (fun e w' ⟨he, nd, hd⟩ => by subst hd; exact ⟨he, h.on (pw_below_drewN (Below.refl _ _) nd)⟩)
theorem Fresh.deliver {W0 W : World} {P : Nat → Prop} {g n : Nat} {bs : List (List Frame)} (h : Fresh W0 W P g n bs) (a b x : Int) {l : List Int} {r : Int} {bs' : List (List Frame)} (hp : peekF n bs a b x = (l, r)) (hb : (loseF n bs a b x).2 = bs') :
    Calls Try.prog 16 #[.pointer (some ⟨g, 0, none⟩), .int .i64 a, .int .i64 b, .int .i64 x] W fun e w' => ∃ A c, e = .returned (.tuple #[.slice A l.length c, .int .i64 r]) ∧ (∃ P', Fresh W0 w' P' g n bs') ∧ Sem.run Try.prog (convert 22 9 (.slice A l.length c)) w' = .ok (.string (strOfNums l)) w' := by
  have := h.net.deliver a b x
  rw [hp, hb] at this
  refine this.mono (fun e w' ⟨v, P', he, h1, h2, h3⟩ => ?_)
  obtain ⟨A, c, rfl⟩ := Kd.R_slice h3
  exact ⟨A, c, he, ⟨P', h.next h1 h2⟩, str_of (Kd.R_V h3 (base' := 0))⟩
theorem Fresh.awake {W0 W : World} {P : Nat → Prop} {g n : Nat} {bs : List (List Frame)} (h : Fresh W0 W P g n bs) : Calls Try.prog 13 #[] W fun e w' => e = .returned (.bool true) ∧ Below W0.heap.size W0 w' :=
  (awake_calls W).mono (fun e w' ⟨he, hb⟩ => ⟨he, h.below.trans (hb.mono h.below.size)⟩)
theorem next_eq {i : Nat} (h : wrap64 ((i : Int) + 1) = (i : Int) + 1) : Value.int .i64 (wrap64 ((i : Int) + 1)) = Value.int .i64 ((i + 1 : Nat) : Int) := by rw [h, Int.natCast_succ]
theorem dec_lt {i q : Nat} (h : i < q) (hw : wrap64 ((i : Int) + 1) = (i : Int) + 1) : q - (intOf (Value.int .i64 (wrap64 ((i : Int) + 1)))).toNat < q - (intOf (Value.int .i64 (i : Int))).toNat := by
  rw [hw]
  show q - ((i : Int) + 1).toNat < q - (i : Int).toNat
  omega
end Go.Proofs.Ytchepjbdaojidaa.PBags
namespace Go.Proofs.Ytchepjbdaojidaa.PBags
open Go.RowKit Go.Proofs.YtchepjbdaojidaaW.PrintWords Go.Proofs.YtchepjbdaojidaaW.PrintLast Go.Proofs.YtchepjbdaojidaaW.PrintMore
attribute [local go_sem] max2_int min2_int max_two min_two max_three min_three max_four min_four
set_option linter.unusedVariables false
set_option linter.unusedSimpArgs false

/-- A net of two with i frames from 0 to 1. -/
def fullB (i : Nat) (f : Frame) : List (List Frame) := [[], List.replicate i f, [], []]
def backB (i : Nat) (f : Frame) : List (List Frame) := [[], List.replicate i f, [f], []]
section
variable {f : Frame}
theorem full_nil : List.replicate (2 * 2) ([] : List Frame) = fullB 0 f := rfl
theorem full_put {i : Nat} (hi : i < 256) (hf : f.1.length ≤ 65545) : putF 2 (fullB i f) 0 1 f = (0, fullB (i + 1) f) := by
  unfold putF
  rw [if_pos (show linkF 2 0 1 = 0 by decide), if_neg (by omega), show (fullB i f).getD (key 2 0 1) [] = List.replicate i f from rfl, if_neg (by rw [List.length_replicate]; omega)]
  show (0, [[], List.replicate i f ++ [f], [], []]) = (0, [[], List.replicate (i + 1) f, [], []])
  rw [List.replicate_succ']
theorem full_stop (hf : f.1.length ≤ 65545) : putF 2 (fullB 256 f) 0 1 f = (6, fullB 256 f) := by
  unfold putF
  rw [if_pos (show linkF 2 0 1 = 0 by decide), if_neg (by omega), show (fullB 256 f).getD (key 2 0 1) [] = List.replicate 256 f from rfl, if_pos List.length_replicate]
theorem full_long {bs : List (List Frame)} (hf : 65545 < f.1.length) : putF 2 bs 0 1 f = (3, bs) := by
  unfold putF
  rw [if_pos (show linkF 2 0 1 = 0 by decide), if_pos hf]
theorem rep_getD {i k : Nat} (h : k < i) (d : Frame) : (List.replicate i f).getD k d = f := by
  rw [List.getD_eq_getElem?_getD, List.getElem?_replicate, if_pos h]; rfl
theorem frame_at {i : Nat} {x : Int} {bs : List (List Frame)} (hb : bs.getD 1 [] = List.replicate i f) (h0 : 0 ≤ x) (hx : x < i) : frameF 2 bs 0 1 x = 0 := by
  unfold frameF
  rw [if_pos (show linkF 2 0 1 = 0 by decide), show bs.getD (key 2 0 1) [] = List.replicate i f from hb, List.length_replicate, if_neg (by omega)]
theorem full_dbl (hf : f.1.length ≤ 65545) : doubleF 2 (fullB 256 f) 0 1 0 = (6, fullB 256 f) := by
  unfold doubleF
  rw [if_pos (frame_at (i := 256) rfl (Int.le_refl 0) (by decide)), show (((fullB 256 f).getD (key 2 0 1) []).getD (0 : Int).toNat ([], false)) = f from rep_getD (by decide) _]
  exact full_stop hf
theorem full_wait : waitF 2 (fullB 256 f) 0 1 = 256 := by
  unfold waitF
  rw [if_pos (show linkF 2 0 1 = 0 by decide)]
  exact List.length_replicate
theorem full_back (hf : f.1.length ≤ 65545) : putF 2 (fullB 256 f) 1 0 f = (0, backB 256 f) := by
  unfold putF
  rw [if_pos (show linkF 2 1 0 = 0 by decide), if_neg (by omega), if_neg (show ¬ ((fullB 256 f).getD (key 2 1 0) []).length = 256 from fun h => by exact absurd (show (0 : Nat) = 256 from h) (by decide))]
  rfl
theorem back_peek {x : Int} (h0 : 0 ≤ x) (h : x < 256) : peekF 2 (backB 256 f) 0 1 x = (f.1, 0) := by
  unfold peekF
  rw [if_pos (frame_at (i := 256) rfl h0 h), show (((backB 256 f).getD (key 2 0 1) []).getD x.toNat ([], false)) = f from rep_getD (by omega) _]
theorem back_lose {x : Int} (h0 : 0 ≤ x) (h : x < 256) : (loseF 2 (backB 256 f) 0 1 x).2 = backB 255 f := by
  unfold loseF
  rw [if_pos (frame_at (i := 256) rfl h0 h)]
  show [[], (List.replicate 256 f).eraseIdx x.toNat, [f], []] = [[], List.replicate 255 f, [f], []]
  rw [List.eraseIdx_replicate, if_pos (by omega)]
theorem back_put {i : Nat} (hi : i < 256) (hf : f.1.length ≤ 65545) : putF 2 (backB i f) 0 1 f = (0, backB (i + 1) f) := by
  unfold putF
  rw [if_pos (show linkF 2 0 1 = 0 by decide), if_neg (by omega), show (backB i f).getD (key 2 0 1) [] = List.replicate i f from rfl, if_neg (by rw [List.length_replicate]; omega)]
  show (0, [[], List.replicate i f ++ [f], [f], []]) = (0, [[], List.replicate (i + 1) f, [f], []])
  rw [List.replicate_succ']
theorem back_dbl (hf : f.1.length ≤ 65545) : doubleF 2 (backB 255 f) 0 1 0 = (0, backB 256 f) := by
  unfold doubleF
  rw [if_pos (frame_at (i := 255) rfl (Int.le_refl 0) (by decide)), show (((backB 255 f).getD (key 2 0 1) []).getD (0 : Int).toNat ([], false)) = f from rep_getD (by decide) _]
  exact back_put (by decide) hf
theorem back_full (hf : f.1.length ≤ 65545) : doubleF 2 (backB 256 f) 0 1 0 = (6, backB 256 f) := by
  unfold doubleF
  rw [if_pos (frame_at (i := 256) rfl (Int.le_refl 0) (by decide)), show (((backB 256 f).getD (key 2 0 1) []).getD (0 : Int).toNat ([], false)) = f from rep_getD (by decide) _]
  unfold putF
  rw [if_pos (show linkF 2 0 1 = 0 by decide), if_neg (by omega), show (backB 256 f).getD (key 2 0 1) [] = List.replicate 256 f from rfl, if_pos List.length_replicate]
end
set_option maxHeartbeats 8000000 in
set_option maxRecDepth 100000 in
theorem bagsFull_calls (W : World) (A : Option Addr) (c : Nat) (l : List Int) (x : Int) (hl : Kd.C (Kd.int .u8) W A l.length l) (hc : l.length ≤ c) :
    Calls Try.prog 3 #[.slice A l.length c, .int .i64 x] W fun e W' => e = .returned (.bool true) ∧ Below W.heap.size W W' := by
  have HV : Aside0 (Kd.V (Kd.int .u8) 5 W 0 (fun k => k < W.heap.size) (.slice A l.length c) l) := ⟨Kd.V_mk (e := 5) (base := 0) hc (Kd.C_F (Kd.heap_int _) hl)⟩
  have HCC := Aside0.mk hc
  have HNW := Aside0.mk (Net.new W 2 (by decide) (by decide))
  have HEQ : Aside0 (l.length = (l, false).1.length) := ⟨rfl⟩
  by_cases hbig : 65545 < l.length
  · have e1 : ((65545 : Int) < (l.length : Int)) = True := eq_true (by omega)
    have e1' : (65545 < l.length) = True := eq_true hbig
    have HP := Aside0.mk hbig
    clear hl hc hbig
    go_enter Try.func3, Try.ntmps3
    go_wp2_with (fail)
    refine HNW.out.mono ?_
    rintro e w1 ⟨g, P1, rfl, hN1, hW1⟩
    have HF1 : Aside0 (Fresh W w1 P1 g 2 (fullB 0 (l, false))) := ⟨⟨hN1, hW1⟩⟩
    clear hN1 hW1 HNW
    have HC_ := Aside0.mk (HF1.out.send HV.out HCC.out 0 1 (full_long HP.out))
    go_wp2_with (fail)
    refine HC_.out.mono ?_
    rintro e w2 ⟨rfl, P2, h_⟩
    have HF2 := Aside0.mk h_
    clear h_ HC_
    have HC_ := Aside0.mk (HF2.out.len (r := 0) rfl)
    go_wp2_with (fail)
    refine HC_.out.mono ?_
    rintro e w3 ⟨rfl, h_⟩
    have HF3 := Aside0.mk h_
    clear h_ HC_
    have HAW := Aside0.mk HF3.out.awake
    go_wp2_with (fail)
    refine HAW.out.mono ?_
    rintro e w' ⟨rfl, hb⟩
    have HB := Aside0.mk hb
    clear hb HAW
    go_wp2
    go_ret
    exact ⟨rfl, HB.out⟩
  have e1 : ((65545 : Int) < (l.length : Int)) = False := eq_false (by omega)
  have e1' : (65545 < l.length) = False := eq_false hbig
  have HS : Aside0 (l.length ≤ 65545) := ⟨Nat.le_of_not_lt hbig⟩
  by_cases hmid : 100 < l.length
  · have e2 : ((100 : Int) < (l.length : Int)) = True := eq_true (by omega)
    have e2' : (100 < l.length) = True := eq_true hmid
    clear hl hc hbig hmid
    go_enter Try.func3, Try.ntmps3
    go_wp2_with (fail)
    refine HNW.out.mono ?_
    rintro e w1 ⟨g, P1, rfl, hN1, hW1⟩
    have HF1 : Aside0 (Fresh W w1 P1 g 2 (fullB 0 (l, false))) := ⟨⟨hN1, hW1⟩⟩
    clear hN1 hW1 HNW
    have HC_ := Aside0.mk (HF1.out.send HV.out HCC.out 0 1 (full_put (by decide) HS.out))
    go_wp2_with (fail)
    refine HC_.out.mono ?_
    rintro e w2 ⟨rfl, P2, h_⟩
    have HF2 := Aside0.mk h_
    clear h_ HC_
    have HC_ := Aside0.mk (HF2.out.len (r := 1) rfl)
    go_wp2_with (fail)
    refine HC_.out.mono ?_
    rintro e w3 ⟨rfl, h_⟩
    have HF3 := Aside0.mk h_
    clear h_ HC_
    have HAW := Aside0.mk HF3.out.awake
    go_wp2_with (fail)
    refine HAW.out.mono ?_
    rintro e w' ⟨rfl, hb⟩
    have HB := Aside0.mk hb
    clear hb HAW
    go_wp2
    go_ret
    exact ⟨rfl, HB.out⟩
  · have e2 : ((100 : Int) < (l.length : Int)) = False := eq_false (by omega)
    have e2' : (100 < l.length) = False := eq_false hmid
    clear hl hc hbig hmid
    go_enter Try.func3, Try.ntmps3
    go_wp2_with (fail)
    refine HNW.out.mono ?_
    rintro e w1 ⟨g, P1, rfl, hN1, hW1⟩
    have HF1 : Aside0 (Fresh W w1 P1 g 2 (fullB 0 (l, false))) := ⟨⟨hN1, hW1⟩⟩
    clear hN1 hW1 HNW
    go_wp2_with (fail)
    obtain ⟨q, hq⟩ : ∃ q : Nat, 256 = q := ⟨_, rfl⟩
    have HQ := Aside0.mk hq
    clear hq
    go_loopw [7] (fun v7 wr => ∃ (i : Nat) (P : Nat → Prop), v7 = .int .i64 (i : Int) ∧ Aside0 (i ≤ 256) ∧ Aside0 (Fresh W wr P g 2 (fullB i (l, false)))) (fun v7 _ => 256 - (intOf v7).toNat)
    case atStart => exact ⟨0, P1, rfl, ⟨Nat.zero_le _⟩, HF1⟩
    case round =>
      clear HF1
      obtain ⟨i, P, rfl, HI, HF⟩ := hrel
      by_cases hlt : i < 256
      · have b2 : ((i : Int) < 256) = True := eq_true (Int.ofNat_lt.2 hlt)
        have b3 : (i < 256) = True := eq_true hlt
        have hw_ := wrap_next (m := i) (by omega)
        have HLT := Aside0.mk hlt
        clear hlt
        have HC_ := Aside0.mk (HF.out.send HV.out HCC.out 0 1 (full_put HLT.out HS.out))
        go_wp2_with (fail)
        refine HC_.out.mono ?_
        rintro e w2 ⟨rfl, P2, h_⟩
        have HF2 := Aside0.mk h_
        clear h_ HC_
        go_wp2
        go_roundw
        case rel => exact ⟨i + 1, P2, next_eq hw_, ⟨HLT.out⟩, HF2⟩
        case measure => exact dec_lt HLT.out hw_
      · have b2 : ((i : Int) < 256) = False := eq_false (fun h => hlt (Int.ofNat_lt.1 h))
        have b3 : (i < 256) = False := eq_false hlt
        obtain rfl : i = 256 := by have := HI.out; omega
        clear hlt HI
        have HC_ := Aside0.mk (HF.out.send HV.out HCC.out 0 1 (full_stop HS.out))
        go_wp2_with (fail)
        refine HC_.out.mono ?_
        rintro e w2 ⟨rfl, P2, h_⟩
        have HF2 := Aside0.mk h_
        clear h_ HC_
        have HC_ := Aside0.mk (HF2.out.double 0 1 0 (full_dbl HS.out))
        go_wp2_with (fail)
        refine HC_.out.mono ?_
        rintro e w3 ⟨rfl, P3, h_⟩
        have HF3 := Aside0.mk h_
        clear h_ HC_
        have HC_ := Aside0.mk (HF3.out.wait 0 1 full_wait)
        go_wp2_with (fail)
        refine HC_.out.mono ?_
        rintro e w4 ⟨rfl, h_⟩
        have HF4 := Aside0.mk h_
        clear h_ HC_
        have HC_ := Aside0.mk (HF4.out.send HV.out HCC.out 1 0 (full_back HS.out))
        go_wp2_with (fail)
        refine HC_.out.mono ?_
        rintro e w5 ⟨rfl, P5, h_⟩
        have HF5 := Aside0.mk h_
        clear h_ HC_
        by_cases h0 : x < 0
        · have d1 : (0 ≤ x) = False := eq_false (by omega)
          clear h0
          have HAW := Aside0.mk HF5.out.awake
          go_wp2_with (fail)
          refine HAW.out.mono ?_
          rintro e w' ⟨rfl, hb⟩
          have HB := Aside0.mk hb
          clear hb HAW
          go_wp2
          go_ret
          exact ⟨rfl, HB.out⟩
        by_cases h1 : x < 256
        · have d1 : (0 ≤ x) = True := eq_true (by omega)
          have d2 : (x < 256) = True := eq_true h1
          have HX := Aside0.mk (And.intro (Int.not_lt.1 h0) h1)
          clear h0 h1
          have HC_ := Aside0.mk (HF5.out.deliver 0 1 x (back_peek HX.out.1 HX.out.2) (back_lose HX.out.1 HX.out.2))
          go_wp2_with (fail)
          refine HC_.out.mono ?_
          rintro e w6 ⟨A3, c3, rfl, ⟨P6, h_⟩, cv1⟩
          have HF6 := Aside0.mk h_
          clear h_ HC_
          have cv2 := str_of (Kd.V_below HV.out HF6.out.below)
          have HC_ := Aside0.mk (HF6.out.double 0 1 0 (back_dbl HS.out))
          go_wp2_with (fail)
          refine HC_.out.mono ?_
          rintro e w7 ⟨rfl, P7, h_⟩
          have HF7 := Aside0.mk h_
          clear h_ HC_
          have HC_ := Aside0.mk (HF7.out.double 0 1 0 (back_full HS.out))
          go_wp2_with (fail)
          refine HC_.out.mono ?_
          rintro e w8 ⟨rfl, P8, h_⟩
          have HF8 := Aside0.mk h_
          clear h_ HC_
          have HAW := Aside0.mk HF8.out.awake
          go_wp2_with (fail)
          refine HAW.out.mono ?_
          rintro e w' ⟨rfl, hb⟩
          have HB := Aside0.mk hb
          clear hb HAW
          go_wp2
          go_ret
          exact ⟨rfl, HB.out⟩
        · have d1 : (0 ≤ x) = True := eq_true (by omega)
          have d2 : (x < 256) = False := eq_false h1
          clear h0 h1
          have HAW := Aside0.mk HF5.out.awake
          go_wp2_with (fail)
          refine HAW.out.mono ?_
          rintro e w' ⟨rfl, hb⟩
          have HB := Aside0.mk hb
          clear hb HAW
          go_wp2
          go_ret
          exact ⟨rfl, HB.out⟩
end Go.Proofs.Ytchepjbdaojidaa.PBags
