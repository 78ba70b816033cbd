/- The links gone over: a net, and the document's, in the midst of a law. -/
import Derived.Lib.SlBytesConst
import Derived.Test.YtchepjbdaojidaaMBagsPl
import Derived.RangeFuncNested
import Derived.RangeFuncBound
import Derived.RangeFuncCalls
import Derived.RangeFuncLeaves
import Derived.RangeFuncBox
import Derived.Shelf.Abstract
import Derived.Shelf.RegionOpen
import Derived.WalkKit
import Derived.OwnWalkIn
import Derived.TacticsInMore
import Derived.LoopNIn
import Derived.LoopIn
import Derived.ControlIn
import Derived.Sort.CutIn
import Derived.Deep.DeepCutAuto
import Derived.Deep.CutBlock
namespace Go.Proofs.Ytchepjbdaojidaa.PBags
open Go.RowKit Go.Proofs.YtchepjbdaojidaaW.PrintWords Go.Proofs.YtchepjbdaojidaaW.PrintLast Go.Proofs.YtchepjbdaojidaaW.PrintMore
attribute [local go_sem] max2_int min2_int max_two min_two max_three min_three max_four min_four
set_option linter.unusedVariables false
set_option linter.unusedSimpArgs false
theorem Net.clone {w : World} {P : Nat → Prop} {g n : Nat} {bs : List (List Frame)} (h : Net w P g n bs) :
    Calls Try.prog 26 #[.pointer (some ⟨g, 0, none⟩)] w fun e w' => ∃ g2 P2, e = .returned (.pointer (some ⟨g2, 0, none⟩)) ∧ Net w' P2 g2 n bs ∧ (∀ k, P2 k → w.heap.size ≤ k) ∧ Below w.heap.size w w' :=
  (clone_calls h.i h.small).mono fun e w' ⟨g2, he, h1, h2⟩ => ⟨g2, _, he, Net.of h1 h.small, fun k hk => hk.1, h2⟩
/-- A net of no blocks that were: what is told of it leaves all that was. -/
theorem Went.fresh {w w' : World} {P' : Nat → Prop} (h : Went w (fun _ => False) w' P') : (∀ k, P' k → w.heap.size ≤ k) ∧ Below w.heap.size w w' :=
  ⟨fun k hk => (h.new k hk).elim False.elim id, h.kept.to_below (fun _ h => h.elim)⟩
/-- A literal's bytes. -/
theorem const_C (w : World) (l : List Int) (fr : Nat × Nat) (hl : l.length ≤ 1000) : Kd.C (Kd.int .u8) (w.alloc (.cells (l.map (Value.int .u8)).toArray 5 fr)) (some ⟨w.heap.size, 0, none⟩) l.length l := by
  refine ⟨rfl, by omega, fun _ => ⟨_, rfl, fun j p hj => ⟨[.int .u8 p], rfl, rfl, fun i u hi => ?_⟩⟩⟩
  have h0 : i = 0 := by
    have := (List.getElem?_eq_some_iff.1 hi).1
    simpa using this
  subst h0
  have hu : Value.int .u8 p = u := Option.some.inj hi
  subst hu
  rw [add_at, Nat.zero_add]
  show (w.alloc _).cell? ⟨w.heap.size, j * 1 + 0, none⟩ = _
  rw [Mem.cell_of (Mem.alloc_new w _), Nat.mul_one, Nat.add_zero, List.getElem?_toArray, List.getElem?_map, hj]
  rfl
set_option maxHeartbeats 8000000 in
set_option maxRecDepth 100000 in
theorem awake_calls (w : World) : Calls Try.prog 13 #[] w fun e w' => e = .returned (.bool true) ∧ Below w.heap.size w w' := by
  have HNW := Aside0.mk (Net.new w 2 (by decide) (by decide))
  go_enter Try.func13, Try.ntmps13
  go_wp2_with (fail)
  refine HNW.out.mono ?_
  rintro e w1 ⟨g, P1, rfl, hN1, hW1⟩
  have HN1 := Aside0.mk hN1
  have HW1 := Aside0.mk hW1
  clear hN1 hW1 HNW
  have kc := fun (w : World) (C : Array Value) (n c : Nat) => Lib.run_convert_bytes_const (P := Try.prog) w 22 5 C n c Try.underlying22 Try.underlying5
  have HBL := Aside0.mk (below_alloc (Below.refl w1.heap.size w1) (.cells #[.int .u8 97] 5 (1, 2)))
  have HN2 := Aside0.mk (HN1.out.below HBL.out)
  have HCC := Aside0.mk (const_C w1 [97] (1, 2) (by decide))
  have HS1 := Aside0.mk (HN2.out.send 0 1 _ 1 [97] HCC.out (Nat.le_refl _))
  rw [show (putF 2 (List.replicate (2 * 2) []) 0 1 ([97], false)).1 = 0 from by decide] at HS1
  go_wp2_with (fail)
  refine HS1.out.mono ?_
  rintro e w3 ⟨P3, rfl, hN3, hW3⟩
  have HN3 := Aside0.mk hN3
  have HW3 := Aside0.mk hW3
  have HS2 := Aside0.mk (HN3.out.send 0 0 none 0 [] (Kd.V_reads' (Kd.V_nil (Kd.int .u8) 5 w3 0 (fun _ => True))).2.2 (Nat.le_refl _))
  rw [show (putF 2 (putF 2 (List.replicate (2 * 2) []) 0 1 ([97], false)).2 0 0 ([], false)).1 = 7 from by decide] at HS2
  clear hN3 hW3 HS1 kc
  go_wp2_with (fail)
  refine HS2.out.mono ?_
  rintro e w4 ⟨P4, rfl, hN4, hW4⟩
  have HN4 := Aside0.mk hN4
  have HW4 := Aside0.mk hW4
  have HS3 := Aside0.mk (wait_calls HN4.out.i 0 1)
  rw [show waitF 2 (putF 2 (putF 2 (List.replicate (2 * 2) []) 0 1 ([97], false)).2 0 0 ([], false)).2 0 1 = 1 from by decide] at HS3
  clear hN4 hW4 HS2
  go_wp2_with (fail)
  refine HS3.out.mono ?_
  rintro e w5 ⟨rfl, ⟨nd, rfl⟩⟩
  go_wp2
  go_ret
  exact ⟨rfl, ((((HW1.out.trans (Went.below HBL.out _)).trans HW3.out).trans HW4.out).kept.below (pw_below_drewN (Below.refl _ _) nd)).to_below (fun _ h => h.elim)⟩
end Go.Proofs.Ytchepjbdaojidaa.PBags
namespace Go.Proofs.Ytchepjbdaojidaa.PBags
open Go.RowKit Go.Proofs.YtchepjbdaojidaaW.PrintWords Go.Proofs.YtchepjbdaojidaaW.PrintLast Go.Proofs.YtchepjbdaojidaaW.PrintMore
set_option linter.unusedVariables false
/-- A call that comes in. -/
structure Cmd where
  kd : Int
  a : Int
  b : Int
  x : Int
  p : Int
  m : Int
  l : List Int
def zCmd : Cmd := ⟨0, 0, 0, 0, 0, 0, []⟩
abbrev kCmd0 : Kd (Int × Int × Int × Int × Int × Int × List Int) := Kd.pair (Kd.int .i64) (Kd.pair (Kd.int .i64) (Kd.pair (Kd.int .i64) (Kd.pair (Kd.int .i64) (Kd.pair (Kd.int .i64) (Kd.pair (Kd.int .i64) (Kd.slice 5 (Kd.int .u8)))))))
def Cmd.parts (x : Cmd) : Int × Int × Int × Int × Int × Int × List Int := (x.kd, x.a, x.b, x.x, x.p, x.m, x.l)
def kCmd : Kd Cmd := Kd.iso kCmd0 Cmd.parts
theorem kCmd_open {w : World} {x : Cmd} {cs : List Value} (h : kCmd.K w x cs) : ∃ A c, cs = [.int .i64 x.kd, .int .i64 x.a, .int .i64 x.b, .int .i64 x.x, .int .i64 x.p, .int .i64 x.m, .slice A x.l.length c] ∧ x.l.length ≤ c ∧ (Kd.int .u8).C w A x.l.length x.l := by
  obtain ⟨_, _, rfl, rfl, ⟨_, _, rfl, rfl, ⟨_, _, rfl, rfl, ⟨_, _, rfl, rfl, ⟨_, _, rfl, rfl, ⟨_, _, rfl, rfl, ⟨A, c, rfl, l, g⟩⟩⟩⟩⟩⟩⟩ := h
  exact ⟨A, c, rfl, l, g⟩
theorem heap_cmd : Kd.Heap kCmd := Kd.heap_iso _ (by repeat (first | exact Kd.heap_slice 5 (by first | exact Kd.heap_scalar | exact Kd.heap_int _) | refine Kd.heap_pair ?_ ?_ | exact Kd.heap_scalar | exact Kd.heap_int _))
theorem kCmd_openF {W : World} {ok : Nat → Prop} {x : Cmd} {cs : List Value} (h : Kd.FK kCmd W ok x cs) : ∃ A c, cs = [.int .i64 x.kd, .int .i64 x.a, .int .i64 x.b, .int .i64 x.x, .int .i64 x.p, .int .i64 x.m, .slice A x.l.length c] ∧ Kd.V (Kd.int .u8) 5 W 0 ok (.slice A x.l.length c) x.l := by
  obtain ⟨A, c, rfl, l, _⟩ := kCmd_open (Kd.FK_now h)
  refine ⟨A, c, rfl, Kd.V_mk l (fun W' hW => ?_)⟩
  obtain ⟨A_, c_, he, l_, g_⟩ := kCmd_open (h W' hW)
  injection (Option.some.inj (show some (Value.slice A x.l.length c) = some (Value.slice A_ x.l.length c_) from congrArg (fun l => l[6]?) he)) with ha_ _ _
  rw [ha_]
  exact g_
/-- A call of those that came in. -/
theorem cmd_at {W : World} {ok : Nat → Prop} {A : Option Addr} {c : Nat} {l : List Cmd} (h : Kd.V kCmd 37 W 0 ok (.slice A l.length c) l) (i : Nat) (hi : i < l.length) :
    ∃ ad Ai ci, A = some ad ∧ W.cell? (ad.add (i * 7)) = some (.int .i64 (l.getD i zCmd).kd) ∧ W.cell? ⟨(ad.add (i * 7)).block, (ad.add (i * 7)).off + 1, none⟩ = some (.int .i64 (l.getD i zCmd).a) ∧ W.cell? ⟨(ad.add (i * 7)).block, (ad.add (i * 7)).off + 2, none⟩ = some (.int .i64 (l.getD i zCmd).b) ∧
      W.cell? ⟨(ad.add (i * 7)).block, (ad.add (i * 7)).off + 3, none⟩ = some (.int .i64 (l.getD i zCmd).x) ∧ W.cell? ⟨(ad.add (i * 7)).block, (ad.add (i * 7)).off + 4, none⟩ = some (.int .i64 (l.getD i zCmd).p) ∧ W.cell? ⟨(ad.add (i * 7)).block, (ad.add (i * 7)).off + 5, none⟩ = some (.int .i64 (l.getD i zCmd).m) ∧
      W.cell? ⟨(ad.add (i * 7)).block, (ad.add (i * 7)).off + 6, none⟩ = some (.slice Ai (l.getD i zCmd).l.length ci) ∧ Kd.V (Kd.int .u8) 5 W 0 ok (.slice Ai (l.getD i zCmd).l.length ci) (l.getD i zCmd).l := by
  obtain ⟨ad, cs, e, _, hFK, hc, _⟩ := Kd.F_get (Kd.V_F h) zCmd (i : Int) (Int.natCast_nonneg _) (Int.ofNat_lt.2 hi)
  rw [Int.toNat_natCast] at hFK hc
  have hc' : ∀ j u, cs[j]? = some u → W.cell? (ad.add (i * 7 + j)) = some u := hc
  obtain ⟨Ai, ci, rfl, hv⟩ := kCmd_openF hFK
  exact ⟨ad, Ai, ci, e, hc' 0 _ rfl, by rw [← add_field _ _ 1 (by omega)]; exact hc' 1 _ rfl, by rw [← add_field _ _ 2 (by omega)]; exact hc' 2 _ rfl, by rw [← add_field _ _ 3 (by omega)]; exact hc' 3 _ rfl, by rw [← add_field _ _ 4 (by omega)]; exact hc' 4 _ rfl, by rw [← add_field _ _ 5 (by omega)]; exact hc' 5 _ rfl, by rw [← add_field _ _ 6 (by omega)]; exact hc' 6 _ rfl, hv⟩
/-- A call of those that came in, in any world behind. -/
theorem cmd_came {W : World} {A : Option Addr} {c : Nat} {l : List Cmd} (h : Kd.V kCmd 37 W 0 (fun k => k < W.heap.size) (.slice A l.length c) l) (i : Nat) (hi : i < l.length) :
    ∃ ad Ai ci, A = some ad ∧ ∀ W', Below W.heap.size W W' → ((W'.cell? (ad.add (i * 7)) = some (.int .i64 (l.getD i zCmd).kd) ∧ W'.cell? ⟨(ad.add (i * 7)).block, (ad.add (i * 7)).off + 1, none⟩ = some (.int .i64 (l.getD i zCmd).a) ∧ W'.cell? ⟨(ad.add (i * 7)).block, (ad.add (i * 7)).off + 2, none⟩ = some (.int .i64 (l.getD i zCmd).b) ∧
      W'.cell? ⟨(ad.add (i * 7)).block, (ad.add (i * 7)).off + 3, none⟩ = some (.int .i64 (l.getD i zCmd).x) ∧ W'.cell? ⟨(ad.add (i * 7)).block, (ad.add (i * 7)).off + 4, none⟩ = some (.int .i64 (l.getD i zCmd).p) ∧ W'.cell? ⟨(ad.add (i * 7)).block, (ad.add (i * 7)).off + 5, none⟩ = some (.int .i64 (l.getD i zCmd).m) ∧
      W'.cell? ⟨(ad.add (i * 7)).block, (ad.add (i * 7)).off + 6, none⟩ = some (.slice Ai (l.getD i zCmd).l.length ci)) ∧ Kd.V (Kd.int .u8) 5 W' 0 (fun k => k < W.heap.size) (.slice Ai (l.getD i zCmd).l.length ci) (l.getD i zCmd).l) := by
  obtain ⟨ad, Ai, ci, e, h0, h1, h2, h3, h4, h5, h6, hv⟩ := cmd_at h i hi
  exact ⟨ad, Ai, ci, e, fun W' hb => ⟨⟨pw_cell_below hb h0, pw_cell_below hb h1, pw_cell_below hb h2, pw_cell_below hb h3, pw_cell_below hb h4, pw_cell_below hb h5, pw_cell_below hb h6⟩, Kd.V_below hv hb⟩⟩
theorem cmd_ok {l : List Cmd} (h : ∀ x ∈ l, x.l.length ≤ 140737488351232) (i : Nat) (hi : i < l.length) : (l.getD i zCmd).l.length ≤ 140737488351232 := by
  rw [List.getD_eq_getElem?_getD, List.getElem?_eq_getElem hi]
  exact h _ (List.getElem_mem hi)
end Go.Proofs.Ytchepjbdaojidaa.PBags
namespace Go.Proofs.Ytchepjbdaojidaa.PBags
open Go.RowKit Go.Proofs.YtchepjbdaojidaaW.PrintWords Go.Proofs.YtchepjbdaojidaaW.PrintLast Go.Proofs.YtchepjbdaojidaaW.PrintMore
set_option linter.unusedVariables false
/-- In the midst of a law: a net of new blocks, the document's net (v, in the box b), tied. -/
structure Mid (W0 : World) (b : Nat) (W : World) (P : Nat → Prop) (g n : Nat) (bs : List (List Frame)) (ys : List S45) (v : Value) (Q : Nat → Prop) : Prop where
  net : Net W P g n bs
  tie : Tie n bs ys
  box : W.heap[b]? = some (.cells #[.int .i64 (n : Int), v] 41 (0, 0))
  view : Kd.V k45 45 W 0 Q v ys
  qp : ∀ k, Q k → ¬ P k
  qb : ∀ k, Q k → k ≠ b ∧ k < W.heap.size
  pb : ∀ k, P k → k ≠ b ∧ W0.heap.size ≤ k
  bge : W0.heap.size ≤ b
  below : Below W0.heap.size W0 W
section
variable {W0 W W' : World} {b t g n : Nat} {P P' Q Q' : Nat → Prop} {bs bs' : List (List Frame)} {ys ys' : List S45} {v v' : Value}
theorem Mid.next (h : Mid W0 b W P g n bs ys v Q) (hb : Below W.heap.size W W') : Mid W0 b W' P g n bs ys v Q :=
  ⟨h.net.below hb, h.tie, (hb.block b (blk_lt h.box)).trans h.box, Kd.V_below h.view hb, h.qp, fun k hk => ⟨(h.qb k hk).1, Nat.lt_of_lt_of_le (h.qb k hk).2 hb.size⟩, h.pb, h.bge, h.below.trans (hb.mono h.below.size)⟩
theorem Mid.start {w1 : World} (hN : Net w1 P g n bs) (hT : Tie n bs ys) (hw : Went W (fun _ => False) w1 P) (v : Value) (hV : Kd.V k45 45 w1 0 (fun _ => False) v ys) : Mid W w1.heap.size (w1.alloc (.cells #[.int .i64 (n : Int), v] 41)) P g n bs ys v (fun _ => False) :=
  ⟨hN.below (below_alloc (Below.refl _ _) _), hT, Mem.alloc_new _ _, Kd.V_alloc hV _, fun _ h => h.elim, fun _ h => h.elim, fun k hk => ⟨by have := hN.lt k hk; omega, hw.fresh.1 k hk⟩, hw.kept.size, below_alloc hw.fresh.2 _⟩
/-- What came in is not touched. -/
theorem Mid.came {α : Type} {d : Kd α} {e : Nat} {u : Value} {xs : List α} (h : Mid W0 b W P g n bs ys v Q) (hv : Kd.V d e W0 0 (fun k => k < W0.heap.size) u xs) : Kd.V d e W 0 (fun k => k < W0.heap.size) u xs ∧ (∀ k, k < W0.heap.size → ¬ P k) :=
  ⟨Kd.V_below hv h.below, fun k hk hp => by have := (h.pb k hp).2; omega⟩
theorem Went.to_below (hw : Went W P W' P') (h0 : Below W0.heap.size W0 W) (hp : ∀ k, P k → W0.heap.size ≤ k) : Below W0.heap.size W0 W' :=
  ⟨hw.kept.os.trans h0.os, hw.kept.tape.trans h0.tape, hw.kept.output.trans h0.output, Nat.le_trans h0.size hw.kept.size, fun k hk => (hw.kept.block k (Nat.lt_of_lt_of_le hk h0.size) (fun hk2 => by have := hp k hk2; omega)).trans (h0.block k hk)⟩
/-- A call of play. -/
theorem Mid.played (h : Mid W0 b W P g n bs ys v Q) (hN : Net W' P' g n bs') (hT : Tie n bs' ys') (hV : Kd.V k45 45 W' 0 Q' v' ys') (hq : ∀ k, Q' k → ¬ P' k) (hq2 : ∀ k, Q' k → Q k ∨ W.heap.size ≤ k) (hw : Went W P W' P') :
    Net W' P' g n bs' ∧ Tie n bs' ys' ∧ W'.heap[b]? = some (.cells #[.int .i64 (n : Int), v] 41 (0, 0)) ∧ Kd.V k45 45 W' 0 (fun k => Q' k ∧ k < W'.heap.size) v' ys' ∧ (∀ k, Q' k ∧ k < W'.heap.size → ¬ P' k) ∧ (∀ k, Q' k ∧ k < W'.heap.size → k ≠ b ∧ k < W'.heap.size) ∧ (∀ k, P' k → k ≠ b ∧ W0.heap.size ≤ k) ∧ Below W0.heap.size W0 W' := by
  have hb := blk_lt h.box
  refine ⟨hN, hT, (hw.kept.block b hb (fun hp => (h.pb b hp).1 rfl)).trans h.box, Kd.V_bound hV, fun k hk => hq k hk.1, fun k hk => ⟨fun e => ?_, hk.2⟩, fun k hk => ?_, hw.to_below h.below (fun k hk => (h.pb k hk).2)⟩
  · subst e
    exact (hq2 k hk.1).elim (fun h_ => (h.qb k h_).1 rfl) (fun h_ => by omega)
  · rcases hw.new k hk with h_ | h_
    · exact h.pb k h_
    · have := h.below.size
      exact ⟨by omega, by omega⟩
/-- The document's net is laid anew into its box. -/
theorem Mid.lay (hN : Net W P g n bs) (hT : Tie n bs ys) (hb : W.heap[b]? = some (.cells #[.int .i64 (n : Int), v] 41 (0, 0))) (hV : Kd.V k45 45 W 0 Q v' ys) (hqp : ∀ k, Q k → ¬ P k) (hqb : ∀ k, Q k → k ≠ b ∧ k < W.heap.size) (hpb : ∀ k, P k → k ≠ b ∧ W0.heap.size ≤ k) (hge : W0.heap.size ≤ b) (hB : Below W0.heap.size W0 W) :
    Mid W0 b ((W.setCell ⟨b, 0, none⟩ (.int .i64 (n : Int))).setCell ⟨b, 1, none⟩ v') P g n bs ys v' Q := by
  have e : ∀ k, k ≠ b → ((W.setCell ⟨b, 0, none⟩ (.int .i64 (n : Int))).setCell ⟨b, 1, none⟩ v').heap[k]? = W.heap[k]? := fun k hk => (Mem.set_other _ _ _ _ hk).trans (Mem.set_other _ _ _ _ hk)
  have es : ((W.setCell ⟨b, 0, none⟩ (.int .i64 (n : Int))).setCell ⟨b, 1, none⟩ v').heap.size = W.heap.size := by rw [Mem.set_size, Mem.set_size]
  refine ⟨⟨?_, hN.small, fun k hk => by rw [es]; exact hN.lt k hk⟩, hT, ret41 hb _ _, Kd.V_step hV (fun k hk _ => e k (hqb k hk).1), hqp, fun k hk => by rw [es]; exact hqb k hk, hpb, hge, below_set (below_set hB hge) hge⟩
  obtain ⟨A, c, h1, h2, h3, h4, h5, h6, h7⟩ := hN.i
  exact ⟨A, c, (e g (hpb g h3).1).trans h1, h2, h3, h4, h5, h6, Kd.S_step h7 (fun k hk _ => e k (hpb k hk.1).1)⟩
/-- A call of play was told: its result lies in a box t of its own. -/
structure Ready (W0 : World) (b t : Nat) (W : World) (P : Nat → Prop) (g n : Nat) (bs : List (List Frame)) (ys : List S45) (v v' : Value) (Q : Nat → Prop) : Prop where
  net : Net W P g n bs
  tie : Tie n bs ys
  box : W.heap[b]? = some (.cells #[.int .i64 (n : Int), v] 41 (0, 0))
  box2 : W.heap[t]? = some (.cells #[.int .i64 (n : Int), v'] 41 (0, 0))
  view : Kd.V k45 45 W 0 Q v' ys
  qp : ∀ k, Q k → ¬ P k
  qb : ∀ k, Q k → k ≠ b ∧ k < W.heap.size
  pb : ∀ k, P k → k ≠ b ∧ W0.heap.size ≤ k
  bge : W0.heap.size ≤ b
  below : Below W0.heap.size W0 W
theorem Ready.lay (h : Ready W0 b t W P g n bs ys v v' Q) : Mid W0 b ((W.setCell ⟨b, 0, none⟩ (.int .i64 (n : Int))).setCell ⟨b, 1, none⟩ v') P g n bs ys v' Q :=
  Mid.lay h.net h.tie h.box h.view h.qp h.qb h.pb h.bge h.below
theorem Mid.ready1 (h : Mid W0 b W P g n bs ys v Q) (hN : Net W' P' g n bs') (hT : Tie n bs' ys') (hV : Kd.V k45 45 W' 0 Q' v' ys') (hq : ∀ k, Q' k → ¬ P' k) (hq2 : ∀ k, Q' k → Q k ∨ W.heap.size ≤ k) (hw : Went W P W' P') :
    Ready W0 b W'.heap.size (((W'.alloc (.cells #[.int .i64 0, .slice none 0 0] 41)).setCell ⟨W'.heap.size, 0, none⟩ (.int .i64 (n : Int))).setCell ⟨W'.heap.size, 1, none⟩ v') P' g n bs' ys' v v' (fun k => Q' k ∧ k < W'.heap.size) := by
  obtain ⟨p1, p2, p3, p4, p5, p6, p7, p8⟩ := h.played hN hT hV hq hq2 hw
  have hb : Below W'.heap.size W' (((W'.alloc (.cells #[.int .i64 0, .slice none 0 0] 41)).setCell ⟨W'.heap.size, 0, none⟩ (.int .i64 (n : Int))).setCell ⟨W'.heap.size, 1, none⟩ v') := below_set (below_set (below_alloc (Below.refl _ _) _) (Nat.le_refl _)) (Nat.le_refl _)
  exact ⟨p1.below hb, p2, (hb.block b (blk_lt p3)).trans p3, ret41 (Mem.alloc_new _ _) _ _, Kd.V_below p4 hb, p5, fun k hk => ⟨(p6 k hk).1, Nat.lt_of_lt_of_le (p6 k hk).2 hb.size⟩, p7, h.bge, p8.trans (hb.mono p8.size)⟩
theorem Mid.ready2 (h : Mid W0 b W P g n bs ys v Q) (hN : Net W' P' g n bs') (hT : Tie n bs' ys') (hV : Kd.V k45 45 W' 0 Q' v' ys') (hq : ∀ k, Q' k → ¬ P' k) (hq2 : ∀ k, Q' k → Q k ∨ (W.alloc (.cells #[.int .i64 0, .slice none 0 0] 41)).heap.size ≤ k) (hw : Went (W.alloc (.cells #[.int .i64 0, .slice none 0 0] 41)) P W' P') :
    W'.heap[W.heap.size]? = some (.cells #[.int .i64 0, .slice none 0 0] 41 (0, 0)) ∧ Ready W0 b W.heap.size ((W'.setCell ⟨W.heap.size, 0, none⟩ (.int .i64 (n : Int))).setCell ⟨W.heap.size, 1, none⟩ v') P' g n bs' ys' v v' (fun k => Q' k ∧ k < W'.heap.size) := by
  have hA := h.next (below_alloc (Below.refl _ _) (.cells #[.int .i64 0, .slice none 0 0] 41))
  have hs : (W.alloc (.cells #[.int .i64 0, .slice none 0 0] 41)).heap.size = W.heap.size + 1 := Mem.alloc_size _ _
  have hbx : W'.heap[W.heap.size]? = some (.cells #[.int .i64 0, .slice none 0 0] 41 (0, 0)) := (hw.kept.block W.heap.size (by omega) (fun hp => Nat.lt_irrefl _ (h.net.lt _ hp))).trans (Mem.alloc_new _ _)
  obtain ⟨p1, p2, p3, p4, p5, p6, p7, p8⟩ := hA.played hN hT hV hq hq2 hw
  have hp : ∀ k, P' k → k ≠ W.heap.size := fun k hk e => by
    rcases hw.new k hk with h_ | h_
    · have := h.net.lt k h_; omega
    · omega
  have hqt : ∀ k, Q' k ∧ k < W'.heap.size → k ≠ W.heap.size := fun k hk e => by
    rcases hq2 k hk.1 with h_ | h_
    · have := (h.qb k h_).2; omega
    · omega
  have hbt : b ≠ W.heap.size := fun e => by have := blk_lt h.box; omega
  have e : ∀ k, k ≠ W.heap.size → ((W'.setCell ⟨W.heap.size, 0, none⟩ (.int .i64 (n : Int))).setCell ⟨W.heap.size, 1, none⟩ v').heap[k]? = W'.heap[k]? := fun k hk => (Mem.set_other _ _ _ _ hk).trans (Mem.set_other _ _ _ _ hk)
  have es : ((W'.setCell ⟨W.heap.size, 0, none⟩ (.int .i64 (n : Int))).setCell ⟨W.heap.size, 1, none⟩ v').heap.size = W'.heap.size := by rw [Mem.set_size, Mem.set_size]
  have hge : W0.heap.size ≤ W.heap.size := h.below.size
  refine ⟨hbx, ⟨?_, p1.small, fun k hk => by rw [es]; exact p1.lt k hk⟩, p2, (e b hbt).trans p3, ret41 hbx _ _, Kd.V_step p4 (fun k hk _ => e k (hqt k hk)), p5, fun k hk => by rw [es]; exact p6 k hk, p7, h.bge, below_set (below_set p8 hge) hge⟩
  obtain ⟨A, c, h1, h2, h3, h4, h5, h6, h7⟩ := p1.i
  exact ⟨A, c, (e g (hp g h3)).trans h1, h2, h3, h4, h5, h6, Kd.S_step h7 (fun k hk _ => e k (hp k hk.1))⟩
/-- Another net, of new blocks, goes on; the old one may have been written. -/
theorem Mid.other {P2 : Nat → Prop} {g2 : Nat} (h : Mid W0 b W P g n bs ys v Q) (hN : Net W' P2 g2 n bs) (h2 : ∀ k, P2 k → W.heap.size ≤ k) (hw : Went W P W' P') : Mid W0 b W' P2 g2 n bs ys v Q := by
  have hb := blk_lt h.box
  refine ⟨hN, h.tie, (hw.kept.block b hb (fun hp => (h.pb b hp).1 rfl)).trans h.box, V_went h.view hw h.qp, fun k hk hp => ?_, fun k hk => ⟨(h.qb k hk).1, Nat.lt_of_lt_of_le (h.qb k hk).2 hw.kept.size⟩, fun k hk => ?_, h.bge, hw.to_below h.below (fun k hk => (h.pb k hk).2)⟩
  · have := h2 k hp
    have := (h.qb k hk).2
    omega
  · have := h2 k hk
    have := h.below.size
    exact ⟨by omega, by omega⟩
end
end Go.Proofs.Ytchepjbdaojidaa.PBags
namespace Go.Proofs.Ytchepjbdaojidaa.PBags
open Go.RowKit Go.Shelf Go.Proofs.YtchepjbdaojidaaW.PrintWords Go.Proofs.YtchepjbdaojidaaW.PrintLast Go.Proofs.YtchepjbdaojidaaW.PrintMore
attribute [local go_sem] max2_int min2_int max_two min_two max_three min_three max_four min_four
set_option linter.unusedVariables false
set_option linter.unusedSimpArgs false
theorem next_eq {i : Nat} (h : wrap64 ((i : Int) + 1) = (i : Int) + 1) : Value.int .i64 (wrap64 ((i : Int) + 1)) = Value.int .i64 ((i + 1 : Nat) : Int) := by rw [h, Int.natCast_succ]
theorem dec_lt {i q : Nat} (h : i < q) (hw : wrap64 ((i : Int) + 1) = (i : Int) + 1) : q - (intOf (Value.int .i64 (wrap64 ((i : Int) + 1)))).toNat < q - (intOf (Value.int .i64 (i : Int))).toNat := by
  rw [hw]
  show q - ((i : Int) + 1).toNat < q - (i : Int).toNat
  omega
def bwp.T8 : Bool × List (List Nat × List Nat) := (true, [([], []), ([], []), ([], []), ([], []), ([2, 3], [2, 3]), ([4], [4]), ([0, 1, 5], [0, 1, 5]), ([6], [6]), ([7], [7]), ([7], [7]), ([], []), ([10, 8, 6, 0, 1, 2, 3, 4, 5, 6, 7, 8, 10], [8, 10]), ([9, 11, 0, 1, 2, 3, 4, 5, 6, 7, 8, 9, 10, 11], [9])])
def bwp.B8 : List Nat := [0, 0, 0, 0, 12, 28, 63, 127, 255, 255, 0, 1535, 4095]
theorem bwp.tab8 : rtab .any (opsOf Try.f6 8) = bwp.T8 := by kernel_rfl
theorem bwp.bits8 : waitsOk bwp.T8.2 bwp.B8 = true := by kernel_rfl
theorem results_c1 {P : Program} {fn : Func} {p : Tmp} {ty : TypeId} (h : fn.results = #[.cell p ty]) (tmps : Array Value) (w : World) (g : Nat) (v : Value) (hp : tmps.getD p undef = .pointer (some ⟨g, 0, none⟩)) (hc : w.cell? ⟨g, 0, none⟩ = some v) (hu : P.underlying ty = some .bool) : (results fn tmps).run P w = .ok v w := by
  have hp' : tmps[p]?.getD undef = .pointer (some ⟨g, 0, none⟩) := by simpa using hp
  simp [results, h, hp', asAddr, loadVar, isAgg, underlying, hu, hc, load, Sem.run]
theorem func_nil (w : World) (lb : Array Value) : Sem.run Try.prog (binOp .eql 50 (.func (.func 38) #[] lb) .nilFunc) w = .ok (.bool false) w := by rfl
theorem cells_out {w' : World} {A : Option Addr} {c base : Nat} {ok : Nat → Prop} {ws : List S55} (hR : Kd.R k55 55 w' base ok (.slice A ws.length c) ws) : WayCells (fun i => base ≤ i ∧ i < w'.heap.size) w' A ws := fun k hk => by
  obtain ⟨gb, cap, he, hge, hlt, _⟩ := Kd.R_form hR (by omega)
  injection he with e1 _ _
  subst e1
  obtain ⟨ad, e, g0, g1, g2⟩ := at_T55 (Kd.R_reads' hR).2.2 (k : Int) (Int.natCast_nonneg _) (by omega)
  obtain rfl : (⟨gb, 0, none⟩ : Addr) = ad := by injection e
  rw [Int.toNat_natCast, add_at, Nat.zero_add] at g0 g1 g2
  unfold rd_T55 at g0 g1 g2
  rw [Int.toNat_natCast] at g0 g1 g2
  exact ⟨gb, rfl, ⟨hge, hlt⟩, g0, g1, g2⟩
/-- What Ways has handed back, and its ways, in a world that came later. -/
def Lain (S : Nat → Prop) (Bx : Nat) (ws : List S55) (w : World) : Prop :=
  S Bx ∧ (∀ i, S i → i < w.heap.size) ∧ ∃ A c, w.cell? ⟨Bx, 0, none⟩ = some (.slice A ws.length c) ∧ WayCells S w A ws
theorem Lain.same {S : Nat → Prop} {Bx : Nat} {ws : List S55} {w w' : World} (h : Lain S Bx ws w) (hs : Same S w w') : Lain S Bx ws w' := by
  obtain ⟨h1, h2, A, c, h3, h4⟩ := h
  exact ⟨h1, fun i hi => Nat.lt_of_lt_of_le (h2 i hi) hs.1, A, c, (cell_same (hs.2 _ h1)).trans h3, h4.same hs⟩
theorem Lain.below {S : Nat → Prop} {Bx : Nat} {ws : List S55} {w w' : World} (h : Lain S Bx ws w) (hb : Below w.heap.size w w') : Lain S Bx ws w' := h.same (Same.below hb h.2.1)
theorem Lain.stops {S : Nat → Prop} {Bx : Nat} {ws : List S55} {w : World} (h : Lain S Bx ws w) (hlen : ws.length ≤ 4096) :
    SeqStopsK Fence.wide 2 Try.prog 38 #[.pointer (some ⟨Bx, 0, none⟩)] encW (Same S) (fun ys => ys = ws) (fun pre => pre <+: ws) ws.length w := fun l J Jx W hW hJ hJx hY h0 => by
  obtain ⟨h1, h2, A, c, h3, h4⟩ := h.below hW
  exact ways1_in S l Bx c A ws hlen J Jx W hJ hY h3 h2 h4 h0
theorem gone_kept {wc w2 w3 w4 : World} {ws : List S55} {P P' : Nat → Prop} (h : WaysOut wc ws w2) (hb : Below w2.heap.size w2 w3) (hw : Went w3 P w4 P') (hP : ∀ k, P k → k < wc.heap.size) : Lain (fun i => wc.heap.size ≤ i ∧ i < w2.heap.size) wc.heap.size ws w4 := by
  obtain ⟨A, c, h1, h2, h3⟩ := h
  have hl : Lain (fun i => wc.heap.size ≤ i ∧ i < w2.heap.size) wc.heap.size ws w2 := ⟨⟨Nat.le_refl _, World.block_lt_of_cell? _ _ h1⟩, fun i hi => hi.2, A, c, h1, h2⟩
  exact (hl.below hb).same ⟨hw.kept.size, fun i hi => hw.kept.block i (Nat.lt_of_lt_of_le hi.2 hb.size) (fun hp => by have := hP i hp; omega)⟩
/-- All blocks but one lie as they lay. -/
def KeptBut (b : Nat) (U W : World) : Prop := U.heap.size ≤ W.heap.size ∧ ∀ i, i < U.heap.size → i ≠ b → W.heap[i]? = U.heap[i]?
theorem KeptBut.refl (b : Nat) (U : World) : KeptBut b U U := ⟨Nat.le_refl _, fun _ _ _ => rfl⟩
theorem KeptBut.on {b : Nat} {U W W' : World} (h : KeptBut b U W) (hb : Below W.heap.size W W') : KeptBut b U W' := ⟨Nat.le_trans h.1 hb.size, fun i hi hn => (hb.block i (Nat.lt_of_lt_of_le hi h.1)).trans (h.2 i hi hn)⟩
theorem KeptBut.set {b o : Nat} {U W : World} (h : KeptBut b U W) (v : Value) : KeptBut b U (W.setCell ⟨b, o, none⟩ v) := ⟨Nat.le_trans h.1 (Nat.le_of_eq (Mem.set_size _ _ _).symm), fun i hi hn => (Mem.set_other _ _ _ _ hn).trans (h.2 i hi hn)⟩
theorem KeptBut.cells {b k t : Nat} {U W : World} {cs : Array Value} (h : KeptBut b U W) (hu : U.heap[k]? = some (.cells cs t (0, 0))) (hn : k ≠ b) : W.heap[k]? = some (.cells cs t (0, 0)) := (h.2 k (blk_lt hu) hn).trans hu
theorem KeptBut.lain {b : Nat} {S : Nat → Prop} {Bx : Nat} {ws : List S55} {U W : World} (h : KeptBut b U W) (hl : Lain S Bx ws U) (hn : ¬ S b) : Lain S Bx ws W := hl.same ⟨h.1, fun i hi => h.2 i (hl.2.1 i hi) (fun e => hn (e ▸ hi))⟩
theorem KeptBut.ways {b : Nat} {S : Nat → Prop} {A : Option Addr} {ws : List S55} {U W : World} (h : KeptBut b U W) (hl : WayCells S U A ws) (hS : ∀ i, S i → i < U.heap.size ∧ i ≠ b) : WayCells S W A ws := hl.same ⟨h.1, fun i hi => h.2 i (hS i hi).1 (hS i hi).2⟩
/-- Between two rounds: so many ways have come. -/
def LI (b n0 : Nat) (Wb U : World) (pre : List S55) (W : World) : Prop := (KeptBut b U W ∧ W.heap[b]? = some (.cells #[.int .i64 (pre.length : Int)] 3 (0, 0))) ∧ Below n0 Wb W
/-- A round has left the loop. -/
def LX (b n0 : Nat) (Wb U : World) (x' : Int) (ws : List S55) (c : Code) (pre : List S55) (W : World) : Prop :=
  (c = .exit 2 ∧ KeptBut b U W ∧ (∃ i : Nat, (i : Int) = x' ∧ W.heap[b]? = some (.cells #[.int .i64 (i : Int)] 3 (0, 0))) ∧ Below n0 Wb W) ∨ (c = .ret ∧ ¬ pre <+: ws)
theorem LI.step {b n0 k : Nat} {Wb U W : World} {pre : List S55} {S : Nat → Prop} (hK : KeptBut b U W) (hc : W.heap[b]? = some (.cells #[.int .i64 (k : Int)] 3 (0, 0))) (hB : Below n0 Wb W) (x : S55) (hk : pre.length = k) (hS : ∀ i, S i → i < W.heap.size ∧ i ≠ b) (hn : n0 ≤ b) :
    KeepsOthers W (W.drew.setCell ⟨b, 0, none⟩ (.int .i64 ((k : Int) + 1))) ∧ Same S W (W.drew.setCell ⟨b, 0, none⟩ (.int .i64 ((k : Int) + 1))) ∧ LI b n0 Wb U (pre ++ [x]) (W.drew.setCell ⟨b, 0, none⟩ (.int .i64 ((k : Int) + 1))) :=
  ⟨(KeepsOthers.drew W).trans (KeepsOthers.setCell _ _ _), (Same.below (below_drew (Below.refl W.heap.size W)) (fun i hi => (hS i hi).1)).trans (Same.set _ _ _ (fun i hi => (hS i hi).2)),
    ⟨(hK.on (below_drew (Below.refl _ _))).set _, by
      have h : (W.drew.setCell ⟨b, 0, none⟩ (.int .i64 ((k : Int) + 1))).heap[b]? = some (.cells #[.int .i64 ((k : Int) + 1)] 3 (0, 0)) := Mem.set_heap (show W.drew.heap[b]? = _ from hc) 0 _
      rw [h, List.length_append, hk]; rfl⟩, (below_drew hB).setCell (p := ⟨b, 0, none⟩) hn _⟩
theorem kept_own {β : Type} {b n0 : Nat} {Wb U : World} (hb : b < U.heap.size) (f : β → Array Value) (h1 : n0 ≤ Wb.heap.size) (h2 : n0 ≤ U.heap.size) : OwnFrom U.heap.size (fun (s : β) W => (KeptBut b U W ∧ W.heap[b]? = some (.cells (f s) 3 (0, 0))) ∧ Below n0 Wb W) := fun s X Y row hs hg hr => by
  have e : ∀ i, i < U.heap.size → Y.heap[i]? = X.heap[i]? := fun i hi => hg.block i (Nat.lt_of_lt_of_le hi hs.1.1.1) (fun e' => by have := (hr i e'.symm).1; omega)
  exact ⟨⟨⟨Nat.le_trans hs.1.1.1 hg.size, fun i hi hn => (e i hi).trans (hs.1.1.2 i hi hn)⟩, (e b hb).trans hs.1.2⟩, ownFrom_below h1 h2 s X Y row hs.2 hg hr⟩
theorem LX_own {b n0 : Nat} {Wb U : World} {x' : Int} {ws : List S55} (hb : b < U.heap.size) (h1 : n0 ≤ Wb.heap.size) (h2 : n0 ≤ U.heap.size) (c : Code) : OwnFrom U.heap.size (LX b n0 Wb U x' ws c) := fun s X Y row hs hg hr => by
  rcases hs with ⟨hc, hk, ⟨i, hi, hv⟩, hB⟩ | hs
  · have := kept_own (β := Unit) (n0 := n0) (Wb := Wb) hb (fun _ => #[.int .i64 (i : Int)]) h1 h2 () X Y row ⟨⟨hk, hv⟩, hB⟩ hg hr
    exact .inl ⟨hc, this.1.1, ⟨i, hi, this.1.2⟩, this.2⟩
  · exact .inr hs
theorem eqA55 (d : Nat) (w : World) (x0 y0 x1 y1 x2 y2 : Int) :
    (Op.equalIn (d + 2) 55 (.agg #[.int .i64 x0, .int .i64 x1, .int .i64 x2]) (.agg #[.int .i64 y0, .int .i64 y1, .int .i64 y2])).run Try.prog w = .ok (x0 == y0 && (x1 == y1 && (x2 == y2))) w := by
  refine eqA_of Try.underlying55 (by kernel_rfl) ?_
  refine eqf_cons (by rfl) (by go_simp; rfl) (by go_simp; rfl) (by go_simp) ?_
  refine eqf_cons (by rfl) (by go_simp; rfl) (by go_simp; rfl) (by go_simp) ?_
  exact eqf_last (by rfl) (by go_simp; rfl) (by go_simp; rfl) (by go_simp)
attribute [local go_sem high] eqA55
attribute [local go_sem] Oper.semAt_some
theorem way_neq (w : World) (x y : S55) : Sem.run Try.prog (binOp .neq 55 (.agg #[.int .i64 x.f0, .int .i64 x.f1, .int .i64 x.f2]) (.agg #[.int .i64 y.f0, .int .i64 y.f1, .int .i64 y.f2])) w = .ok (.bool (!(x.f0 == y.f0 && (x.f1 == y.f1 && (x.f2 == y.f2))))) w := by
  go_simp
theorem way_same {x y : S55} : (x.f0 == y.f0 && (x.f1 == y.f1 && (x.f2 == y.f2))) = true ↔ x = y := by
  cases x; cases y
  simp
theorem way_other {x y : S55} (h : x ≠ y) : (x.f0 == y.f0 && (x.f1 == y.f1 && (x.f2 == y.f2))) = false := by
  rw [Bool.eq_false_iff]; exact fun e => h (way_same.1 e)
theorem not_prefix {pre ws : List S55} {x : S55} (hlt : pre.length < ws.length) (h : x ≠ ws.getD pre.length z55) : ¬ (pre ++ [x]) <+: ws := fun ⟨t, ht⟩ => h (by rw [← ht]; simp)
set_option maxHeartbeats 8000000 in
set_option maxRecDepth 100000 in
theorem bagsWays_calls (W : World) (A : Option Addr) (c : Nat) (l : List Cmd) (hl : Kd.C kCmd W A l.length l) (hc : l.length ≤ c) (hok : ∀ x ∈ l, x.l.length ≤ 140737488351232) (x' : Int) :
    Calls Try.prog 6 #[.slice A l.length c, .int .i64 x'] W fun e W' => e = .returned (.bool true) ∧ Below W.heap.size W W' := by
  obtain ⟨W0, hW0⟩ : ∃ W0, (W.alloc (.cells #[.int .i64 x'] 3)).alloc (.cells #[.bool false] 4) = W0 := ⟨_, rfl⟩
  have hB0 : Below W.heap.size W W0 := by rw [← hW0]; exact below_alloc (below_alloc (Below.refl _ _) _) _
  have hbx : W0.heap[W.heap.size]? = some (.cells #[.int .i64 x'] 3 (0, 0)) := by rw [← hW0]; exact Mem.alloc_old (Mem.alloc_new _ _) _
  have hby : W0.heap[W.heap.size + 1]? = some (.cells #[.bool false] 4 (0, 0)) := by rw [← hW0]; exact Mem.alloc_new_at _ _ _ (by rw [Mem.alloc_size])
  have HB0 := Aside0.mk hB0
  have HBX := Aside0.mk hbx
  have HBY := Aside0.mk hby
  have HL : Aside0 (Kd.V kCmd 37 W0 0 (fun k => k < W0.heap.size) (.slice A l.length c) l) := ⟨Kd.V_mono (Kd.V_below (Kd.V_mk (e := 37) (base := 0) (ok := fun k => k < W.heap.size) hc (Kd.C_F heap_cmd hl)) hB0) (fun k hk => Nat.lt_of_lt_of_le hk hB0.size)⟩
  have HOK := Aside0.mk hok
  obtain ⟨q, hq⟩ : ∃ q, l.length = q := ⟨_, rfl⟩
  have HLEN := Aside0.mk hq
  rw [hq] at HL
  have HNW := Aside0.mk (Net.new W0 4 (by decide) (by decide))
  clear hl hok hc hB0 hbx hby
  rw [hq]
  clear hq
  refine (callsIn_wide (n := 3)).1 ?_
  refine callsIn_of_wp_marks Try.func6 rfl trivial ?_ rfl
  simp only [Try.ntmps6, List.size_toArray, List.length_cons, List.length_nil, Nat.reduceAdd, Nat.reduceSub, Array.replicate_succ, Array.replicate_zero, List.push_toArray, List.append_toArray, List.nil_append, List.cons_append]
  refine wpIn_wide.2 ?_
  go_wp2_with (fail)
  clear hW0
  refine HNW.out.mono ?_
  rintro e w1 ⟨g, P1, rfl, hN1, hW1⟩
  have HM0 : Aside0 (Mid W0 w1.heap.size (w1.alloc (.cells #[.int .i64 4, .slice none 0 0] 41)) P1 g 4 _ [] (.slice none 0 0) _) := ⟨Mid.start (ys := []) hN1 (tie_empty 4) hW1 (.slice none 0 0) (Kd.V_nil _ _ _ _ _)⟩
  clear hN1 hW1 HNW
  go_upto_block 0 with (fail)
  generalize w1.heap.size = b7 at *
  go_cut [8] from 28 to 48 (fun s8 wc => ∃ (P : Nat → Prop) (bs : List (List Frame)) (ys : List S45) (Ay : Option Addr) (cy : Nat) (Q : Nat → Prop), Aside0 (Mid W0 b7 wc P g 4 bs ys (.slice Ay ys.length cy) Q))
  case first =>
    refine wp_mono (Q := Exit.then _ (fun _ _ _ => False)) ?_ (fun e a w h => by cases e <;> first | exact h | exact h.elim)
    go_wp2_with (fail)
    go_loopw [8] (fun v8 wr => ∃ (i : Nat) (P : Nat → Prop) (bs : List (List Frame)) (ys : List S45) (Ay : Option Addr) (cy : Nat) (Q : Nat → Prop), v8 = .int .i64 (i : Int) ∧ Aside0 (i ≤ 200) ∧ Aside0 (Mid W0 b7 wr P g 4 bs ys (.slice Ay ys.length cy) Q)) (fun v8 _ => 200 - (intOf v8).toNat)
    case atStart => exact ⟨0, P1, _, [], none, 0, _, rfl, ⟨Nat.zero_le _⟩, HM0⟩
    case round =>
      rename World => wo
      clear HM0
      obtain ⟨i, P, bs, ys, Ay, cy, Q, rfl, HI, HM⟩ := hrel
      by_cases hlt : i < q
      · have b2 : ((i : Int) < (q : Int)) = True := eq_true (Int.ofNat_lt.2 hlt)
        have b3 : (i < q) = True := eq_true hlt
        by_cases h4 : i < 200
        · have b1 : (0 ≤ (i : Int)) = True := eq_true (Int.natCast_nonneg _)
          have b4 : ((i : Int) < 200) = True := eq_true (Int.ofNat_lt.2 h4)
          have b5 : (i < 200) = True := eq_true h4
          obtain ⟨ad, Ai, ci, hA, hc_⟩ := cmd_came (by rw [HLEN.out]; exact HL.out) i (by rw [HLEN.out]; exact hlt)
          have HLP := Aside0.mk (cmd_ok HOK.out i (by rw [HLEN.out]; exact hlt))
          obtain ⟨z, hz⟩ : ∃ z, l.getD i zCmd = z := ⟨_, rfl⟩
          rw [hz] at HLP
          simp only [hz] at hc_
          clear hz
          obtain ⟨kd, a, b, x, p, mm, lp⟩ := z
          subst hA
          have HC := Aside0.mk hc_
          have hw_ := wrap_next (m := i) (by omega)
          have HLT := Aside0.mk h4
          clear hlt h4 hc_
          go_wp2_with (fail)
          have HMd := Aside0.mk (HM.out.next (below_drew (Below.refl _ wo)))
          have HMa := Aside0.mk (HMd.out.next (below_alloc (Below.refl _ _) (.cells #[.int .i64 0, .slice none 0 0] 41)))
          have HP1 := Aside0.mk (play_calls HMd.out.net HMd.out.tie Ay cy HMd.out.view HMd.out.qp kd a b x p mm Ai ci lp (HC.out _ HMd.out.below).2 (HM.out.came HL.out).2 HLP.out)
          have HP2 := Aside0.mk (play_calls HMa.out.net HMa.out.tie Ay cy HMa.out.view HMa.out.qp kd a b x p mm Ai ci lp (HC.out _ HMa.out.below).2 (HM.out.came HL.out).2 HLP.out)
          have HS : Aside0 ((wo.drew.cell? ⟨b7, 0, none⟩ = some (.int .i64 4) ∧ wo.drew.cell? ⟨b7, 1, none⟩ = some (.slice Ay ys.length cy)) ∧ wo.drew.cell? (ad.add (i * 7)) = some (.int .i64 kd) ∧ wo.drew.cell? ⟨(ad.add (i * 7)).block, (ad.add (i * 7)).off + 1, none⟩ = some (.int .i64 a) ∧ wo.drew.cell? ⟨(ad.add (i * 7)).block, (ad.add (i * 7)).off + 2, none⟩ = some (.int .i64 b) ∧ wo.drew.cell? ⟨(ad.add (i * 7)).block, (ad.add (i * 7)).off + 3, none⟩ = some (.int .i64 x) ∧ wo.drew.cell? ⟨(ad.add (i * 7)).block, (ad.add (i * 7)).off + 4, none⟩ = some (.int .i64 p) ∧ wo.drew.cell? ⟨(ad.add (i * 7)).block, (ad.add (i * 7)).off + 5, none⟩ = some (.int .i64 mm) ∧ wo.drew.cell? ⟨(ad.add (i * 7)).block, (ad.add (i * 7)).off + 6, none⟩ = some (.slice Ai lp.length ci)) := ⟨⟨Mem.cell_of HMd.out.box 0, Mem.cell_of HMd.out.box 1⟩, (HC.out _ HMd.out.below).1⟩
          refine start_ (n := 13) (S := (fun w' => (w'.cell? ⟨b7, 0, none⟩ = some (.int .i64 4) ∧ w'.cell? ⟨b7, 1, none⟩ = some (.slice Ay ys.length cy)) ∧ w'.cell? (ad.add (i * 7)) = some (.int .i64 kd) ∧ w'.cell? ⟨(ad.add (i * 7)).block, (ad.add (i * 7)).off + 1, none⟩ = some (.int .i64 a) ∧ w'.cell? ⟨(ad.add (i * 7)).block, (ad.add (i * 7)).off + 2, none⟩ = some (.int .i64 b) ∧ w'.cell? ⟨(ad.add (i * 7)).block, (ad.add (i * 7)).off + 3, none⟩ = some (.int .i64 x) ∧ w'.cell? ⟨(ad.add (i * 7)).block, (ad.add (i * 7)).off + 4, none⟩ = some (.int .i64 p) ∧ w'.cell? ⟨(ad.add (i * 7)).block, (ad.add (i * 7)).off + 5, none⟩ = some (.int .i64 mm) ∧ w'.cell? ⟨(ad.add (i * 7)).block, (ad.add (i * 7)).off + 6, none⟩ = some (.slice Ai lp.length ci))) (ds := [11]) #[false, false, false, false, false, false, false, false, false, false, false, false, false] (by kernel_rfl) rfl rfl (HS.out) (fun hHeld => ?_)
          refine with_tabW bwp.tab8 bwp.bits8 (fun HT_ HW_ => ?_)
          refine pure_ (i := 0) (N := (some 39)) (v := ?_) (a' := ?_) #[true, false, false, false, false, false, false, false, false, false, false, false, false] rfl rfl (any_of HT_.out (by kernel_rfl)) (fun _ _ _ h => h) (Or.inl ⟨by rfl, ?_⟩) ?_ ?_
          rotate_left
          · intro w'
            go_simp
            with_reducible rfl
          rotate_left
          · simp only [Act.put, List.setIfInBounds_toArray, List.set_cons_zero, List.set_cons_succ, i64_w, i32_w]
            rfl
          refine pure_ (i := 2) (N := (some 41)) (v := ?_) (a' := ?_) #[true, false, true, false, false, false, false, false, false, false, false, false, false] rfl rfl (any_of HT_.out (by kernel_rfl)) (fun _ _ _ h => h) (Or.inl ⟨by rfl, ?_⟩) ?_ ?_
          rotate_left
          · intro w'
            go_simp
            with_reducible rfl
          rotate_left
          · simp only [Act.put, List.setIfInBounds_toArray, List.set_cons_zero, List.set_cons_succ, i64_w, i32_w]
            rfl
          refine pure_ (i := 3) (N := (some 42)) (v := ?_) (a' := ?_) #[true, false, true, true, false, false, false, false, false, false, false, false, false] rfl rfl (any_of HT_.out (by kernel_rfl)) (fun _ _ _ h => h) (Or.inl ⟨by rfl, ?_⟩) ?_ ?_
          rotate_left
          · intro w'
            go_simp
            with_reducible rfl
          rotate_left
          · simp only [Act.put, List.setIfInBounds_toArray, List.set_cons_zero, List.set_cons_succ, i64_w, i32_w]
            rfl
          refine pure_ (i := 4) (N := (some 43)) (v := ?_) (a' := ?_) #[true, false, true, true, true, false, false, false, false, false, false, false, false] rfl rfl (any_of HT_.out (by kernel_rfl)) (fun _ _ _ h => h) (Or.inl ⟨by rfl, ?_⟩) ?_ ?_
          rotate_left
          · intro w'
            go_simp
            with_reducible rfl
          rotate_left
          · simp only [Act.put, List.setIfInBounds_toArray, List.set_cons_zero, List.set_cons_succ, i64_w, i32_w]
            rfl
          refine take_ (i := 1) (N := (some 40)) (v := ?_) (a' := ?_) #[true, true, true, true, true, false, false, false, false, false, false, false, false] rfl rfl (take_ofW HT_.out HW_.out (by kernel_rfl)) (fun _ _ _ h => h) (Or.inl ⟨by rfl, ?_⟩) hHeld ?_ ?_
          rotate_left
          · rintro w' ⟨⟨s0, s1⟩, s2, s3, s4, s5, s6, s7, s8⟩
            go_simp
            with_reducible rfl
          rotate_left
          · simp only [Act.put, List.setIfInBounds_toArray, List.set_cons_zero, List.set_cons_succ, i64_w, i32_w]
            rfl
          refine take_ (i := 5) (N := (some 44)) (v := ?_) (a' := ?_) #[true, true, true, true, true, true, false, false, false, false, false, false, false] rfl rfl (take_ofW HT_.out HW_.out (by kernel_rfl)) (fun _ _ _ h => h) (Or.inl ⟨by rfl, ?_⟩) hHeld ?_ ?_
          rotate_left
          · rintro w' ⟨⟨s0, s1⟩, s2, s3, s4, s5, s6, s7, s8⟩
            go_simp
            with_reducible rfl
          rotate_left
          · simp only [Act.put, List.setIfInBounds_toArray, List.set_cons_zero, List.set_cons_succ, i64_w, i32_w]
            rfl
          refine two_ (i := 6) (j := 10) (Ni := (some 45)) (Nj := (some 9)) #[true, true, true, true, true, true, true, false, false, false, false, false, false] #[true, true, true, true, true, true, false, false, false, false, true, false, false] rfl rfl rfl rfl (two_of HT_.out (by kernel_rfl)) (by decide) (by decide) (fun K hK => ?_) (fun K hK => ?_)
          · refine goes_ Try.func18 (by kernel_rfl) rfl #[.pointer (some ⟨g, 0, none⟩), .agg #[.int .i64 4, .slice Ay ys.length cy], .agg #[.int .i64 kd, .int .i64 a, .int .i64 b, .int .i64 x, .int .i64 p, .int .i64 mm, .slice Ai lp.length ci]] (by rfl) rfl rfl (by (try simp only [List.map_toArray, List.map_cons, List.map_nil]); first | done | rfl) ?_
            refine HP1.out.mono ?_
            rintro e w3 ⟨v3, ys3, rfl, P3, Q3, hN3, hT3, hV3, hq3, hr3, hw3⟩
            refine ⟨_, rfl, ?_⟩
            obtain ⟨A3, c3, rfl⟩ := Kd.V_slice hV3
            have HPD := Aside0.mk (HMd.out.played hN3 hT3 hV3 hq3 hr3 hw3)
            have HRD : Aside0 (Ready W0 b7 w3.heap.size (((w3.alloc (.cells #[.int .i64 0, .slice none 0 0] 41)).setCell ⟨w3.heap.size, 0, none⟩ (.int .i64 4)).setCell ⟨w3.heap.size, 1, none⟩ (.slice A3 ys3.length c3)) P3 g 4 _ ys3 (.slice Ay ys.length cy) (.slice A3 ys3.length c3) _) := ⟨HMd.out.ready1 hN3 hT3 hV3 hq3 hr3 hw3⟩
            clear hN3 hT3 hV3 hq3 hr3 hw3
            refine hK.out _ _ (⟨⟨Mem.cell_of HPD.out.2.2.1 0, Mem.cell_of HPD.out.2.2.1 1⟩, (HC.out _ HPD.out.2.2.2.2.2.2.2).1⟩) (fun hHeld => ?_)
            clear hK K
            refine norm_ (a' := ?_) ?_ ?_
            rotate_left
            · show Act.put _ (some 45) _ = _
              simp only [Act.put, List.setIfInBounds_toArray, List.set_cons_zero, List.set_cons_succ, i64_w, i32_w]
              rfl
            refine pure_ (i := 7) (N := (some 38)) (v := ?_) (a' := ?_) #[true, true, true, true, true, true, true, true, false, false, false, false, false] rfl rfl (any_of HT_.out (by kernel_rfl)) (fun _ _ _ h => h) (Or.inl ⟨by rfl, ?_⟩) ?_ ?_
            rotate_left
            · intro w'
              go_simp
              with_reducible rfl
            rotate_left
            · simp only [Act.put, List.setIfInBounds_toArray, List.set_cons_zero, List.set_cons_succ, i64_w, i32_w]
              rfl
            refine pure_ (i := 8) (N := (some 46)) (v := ?_) (a' := ?_) #[true, true, true, true, true, true, true, true, true, false, false, false, false] rfl rfl (any_of HT_.out (by kernel_rfl)) (fun _ _ _ h => h) (Or.inl ⟨by rfl, ?_⟩) ?_ ?_
            rotate_left
            · intro w'
              go_simp
              with_reducible rfl
            rotate_left
            · simp only [Act.put, List.setIfInBounds_toArray, List.set_cons_zero, List.set_cons_succ, i64_w, i32_w]
              rfl
            refine pure_ (i := 9) (N := (some 47)) (v := ?_) (a' := ?_) #[true, true, true, true, true, true, true, true, true, true, false, false, false] rfl rfl (any_of HT_.out (by kernel_rfl)) (fun _ _ _ h => h) (Or.inl ⟨by rfl, ?_⟩) ?_ ?_
            rotate_left
            · intro w'
              go_simp
              with_reducible rfl
            rotate_left
            · simp only [Act.put, List.setIfInBounds_toArray, List.set_cons_zero, List.set_cons_succ, i64_w, i32_w]
              rfl
            refine one_ (i := 10) (N := (some 9)) #[true, true, true, true, true, true, true, true, true, true, true, false, false] rfl rfl (one_of HT_.out (by kernel_rfl)) (by decide) (fun K hK => ?_)
            refine value_ (w1 := w3.alloc (.cells #[.int .i64 0, .slice none 0 0] 41)) (v := .pointer (some ⟨w3.heap.size, 0, none⟩)) (by rfl) rfl ?_ ?_
            · go_simp
            have hbz : (w3.alloc (.cells #[.int .i64 0, .slice none 0 0] 41)).heap[w3.heap.size]? = some (.cells #[.int .i64 0, .slice none 0 0] 41 (0, 0)) := Mem.alloc_new _ _
            have cz0 := Mem.cell_of hbz 0
            have cz1 := Mem.cell_of hbz 1
            have fz0 := Mem.free_of hbz 0
            have fz1 := Mem.free_of hbz 1
            clear hbz
            have hpb : Below w3.heap.size w3 (w3.alloc (.cells #[.int .i64 0, .slice none 0 0] 41)) := below_alloc (Below.refl _ _) _
            refine hK.out _ _ (⟨⟨pw_cell_below hpb (Mem.cell_of HPD.out.2.2.1 0), pw_cell_below hpb (Mem.cell_of HPD.out.2.2.1 1)⟩, (HC.out _ (HPD.out.2.2.2.2.2.2.2.trans (hpb.mono HPD.out.2.2.2.2.2.2.2.size))).1⟩) (fun hHeld => ?_)
            clear hK K
            refine norm_ (a' := ?_) ?_ ?_
            rotate_left
            · show Act.put _ (some 9) _ = _
              simp only [Act.put, List.setIfInBounds_toArray, List.set_cons_zero, List.set_cons_succ, i64_w, i32_w]
              rfl
            refine last_ (i := 11) (N := none) #[true, true, true, true, true, true, true, true, true, true, true, true, false] rfl rfl (one_of HT_.out (by kernel_rfl)) (by decide) (fun K hK => ?_)
            refine skip_ (w1 := ((w3.alloc (.cells #[.int .i64 0, .slice none 0 0] 41)).setCell ⟨w3.heap.size, 0, none⟩ (.int .i64 4)).setCell ⟨w3.heap.size, 1, none⟩ (.slice A3 ys3.length c3)) (by rfl) rfl ?_ ?_
            · go_simp
            refine hK.out _ _ ?_
            clear hK K
            refine pure_ (i := 12) (N := (some 10)) (v := ?_) (a' := ?_) #[true, true, true, true, true, true, true, true, true, true, true, true, true] rfl rfl (any_of HT_.out (by kernel_rfl)) (fun _ _ _ h => h) (Or.inl ⟨by rfl, ?_⟩) ?_ ?_
            rotate_left
            · intro w'
              go_simp
              with_reducible rfl
            rotate_left
            · simp only [Act.put, List.setIfInBounds_toArray, List.set_cons_zero, List.set_cons_succ, i64_w, i32_w]
              rfl
            refine done_ (done_of HT_.out (by kernel_rfl)) ?_
            generalize ((w3.alloc (.cells #[.int .i64 0, .slice none 0 0] 41)).setCell ⟨w3.heap.size, 0, none⟩ (.int .i64 4)).setCell ⟨w3.heap.size, 1, none⟩ (.slice A3 ys3.length c3) = w4 at HRD ⊢
            clear cz0 cz1 fz0 fz1 HPD HP1 HP2 HS HMd HMa
            generalize htt : w3.heap.size = tt at HRD ⊢
            clear htt
            have ct0 : w4.cell? ⟨tt, 0, none⟩ = some (.int .i64 4) := Mem.cell_of HRD.out.box2 0
            have ct1 := Mem.cell_of HRD.out.box2 1
            have cb0 : w4.cell? ⟨b7, 0, none⟩ = some (.int .i64 4) := Mem.cell_of HRD.out.box 0
            have cb1 := Mem.cell_of HRD.out.box 1
            have fb0 := Mem.free_of HRD.out.box 0
            have fb1 := Mem.free_of HRD.out.box 1
            have HM5 : Aside0 (Mid W0 b7 ((w4.setCell ⟨b7, 0, none⟩ (.int .i64 4)).setCell ⟨b7, 1, none⟩ (.slice A3 ys3.length c3)) P3 g 4 _ ys3 (.slice A3 ys3.length c3) _) := ⟨HRD.out.lay⟩
            clear HRD
            go_wp2
            go_roundw
            case rel =>
              exact ⟨i + 1, _, _, ys3, A3, c3, _, next_eq hw_, ⟨HLT.out⟩, HM5⟩
            case measure => exact dec_lt HLT.out hw_
          · refine value_ (w1 := wo.drew.alloc (.cells #[.int .i64 0, .slice none 0 0] 41)) (v := .pointer (some ⟨wo.heap.size, 0, none⟩)) (by rfl) rfl ?_ ?_
            · go_simp
            refine hK.out _ _ (⟨⟨Mem.cell_of HMa.out.box 0, Mem.cell_of HMa.out.box 1⟩, (HC.out _ HMa.out.below).1⟩) (fun hHeld => ?_)
            clear hK K
            refine norm_ (a' := ?_) ?_ ?_
            rotate_left
            · show Act.put _ (some 9) _ = _
              simp only [Act.put, List.setIfInBounds_toArray, List.set_cons_zero, List.set_cons_succ, i64_w, i32_w]
              rfl
            refine one_ (i := 6) (N := (some 45)) #[true, true, true, true, true, true, true, false, false, false, true, false, false] rfl rfl (one_of HT_.out (by kernel_rfl)) (by decide) (fun K hK => ?_)
            refine goes_ Try.func18 (by kernel_rfl) rfl #[.pointer (some ⟨g, 0, none⟩), .agg #[.int .i64 4, .slice Ay ys.length cy], .agg #[.int .i64 kd, .int .i64 a, .int .i64 b, .int .i64 x, .int .i64 p, .int .i64 mm, .slice Ai lp.length ci]] (by rfl) rfl rfl (by (try simp only [List.map_toArray, List.map_cons, List.map_nil]); first | done | rfl) ?_
            refine HP2.out.mono ?_
            rintro e w3 ⟨v3, ys3, rfl, P3, Q3, hN3, hT3, hV3, hq3, hr3, hw3⟩
            refine ⟨_, rfl, ?_⟩
            obtain ⟨A3, c3, rfl⟩ := Kd.V_slice hV3
            have HPD := Aside0.mk (HMa.out.played hN3 hT3 hV3 hq3 hr3 hw3)
            have HRD0 : Aside0 (w3.heap[wo.heap.size]? = some (.cells #[.int .i64 0, .slice none 0 0] 41 (0, 0)) ∧ Ready W0 b7 wo.heap.size ((w3.setCell ⟨wo.heap.size, 0, none⟩ (.int .i64 4)).setCell ⟨wo.heap.size, 1, none⟩ (.slice A3 ys3.length c3)) P3 g 4 _ ys3 (.slice Ay ys.length cy) (.slice A3 ys3.length c3) _) := ⟨HMd.out.ready2 hN3 hT3 hV3 hq3 hr3 hw3⟩
            have cz0 := Mem.cell_of HRD0.out.1 0
            have cz1 := Mem.cell_of HRD0.out.1 1
            have fz0 := Mem.free_of HRD0.out.1 0
            have fz1 := Mem.free_of HRD0.out.1 1
            have HRD := Aside0.mk HRD0.out.2
            clear hN3 hT3 hV3 hq3 hr3 hw3
            refine hK.out _ _ (⟨⟨Mem.cell_of HPD.out.2.2.1 0, Mem.cell_of HPD.out.2.2.1 1⟩, (HC.out _ HPD.out.2.2.2.2.2.2.2).1⟩) (fun hHeld => ?_)
            clear hK K
            refine norm_ (a' := ?_) ?_ ?_
            rotate_left
            · show Act.put _ (some 45) _ = _
              simp only [Act.put, List.setIfInBounds_toArray, List.set_cons_zero, List.set_cons_succ, i64_w, i32_w]
              rfl
            refine pure_ (i := 7) (N := (some 38)) (v := ?_) (a' := ?_) #[true, true, true, true, true, true, true, true, false, false, true, false, false] rfl rfl (any_of HT_.out (by kernel_rfl)) (fun _ _ _ h => h) (Or.inl ⟨by rfl, ?_⟩) ?_ ?_
            rotate_left
            · intro w'
              go_simp
              with_reducible rfl
            rotate_left
            · simp only [Act.put, List.setIfInBounds_toArray, List.set_cons_zero, List.set_cons_succ, i64_w, i32_w]
              rfl
            refine pure_ (i := 8) (N := (some 46)) (v := ?_) (a' := ?_) #[true, true, true, true, true, true, true, true, true, false, true, false, false] rfl rfl (any_of HT_.out (by kernel_rfl)) (fun _ _ _ h => h) (Or.inl ⟨by rfl, ?_⟩) ?_ ?_
            rotate_left
            · intro w'
              go_simp
              with_reducible rfl
            rotate_left
            · simp only [Act.put, List.setIfInBounds_toArray, List.set_cons_zero, List.set_cons_succ, i64_w, i32_w]
              rfl
            refine pure_ (i := 9) (N := (some 47)) (v := ?_) (a' := ?_) #[true, true, true, true, true, true, true, true, true, true, true, false, false] rfl rfl (any_of HT_.out (by kernel_rfl)) (fun _ _ _ h => h) (Or.inl ⟨by rfl, ?_⟩) ?_ ?_
            rotate_left
            · intro w'
              go_simp
              with_reducible rfl
            rotate_left
            · simp only [Act.put, List.setIfInBounds_toArray, List.set_cons_zero, List.set_cons_succ, i64_w, i32_w]
              rfl
            refine last_ (i := 11) (N := none) #[true, true, true, true, true, true, true, true, true, true, true, true, false] rfl rfl (one_of HT_.out (by kernel_rfl)) (by decide) (fun K hK => ?_)
            refine skip_ (w1 := (w3.setCell ⟨wo.heap.size, 0, none⟩ (.int .i64 4)).setCell ⟨wo.heap.size, 1, none⟩ (.slice A3 ys3.length c3)) (by rfl) rfl ?_ ?_
            · go_simp
            refine hK.out _ _ ?_
            clear hK K
            refine pure_ (i := 12) (N := (some 10)) (v := ?_) (a' := ?_) #[true, true, true, true, true, true, true, true, true, true, true, true, true] rfl rfl (any_of HT_.out (by kernel_rfl)) (fun _ _ _ h => h) (Or.inl ⟨by rfl, ?_⟩) ?_ ?_
            rotate_left
            · intro w'
              go_simp
              with_reducible rfl
            rotate_left
            · simp only [Act.put, List.setIfInBounds_toArray, List.set_cons_zero, List.set_cons_succ, i64_w, i32_w]
              rfl
            refine done_ (done_of HT_.out (by kernel_rfl)) ?_
            generalize (w3.setCell ⟨wo.heap.size, 0, none⟩ (.int .i64 4)).setCell ⟨wo.heap.size, 1, none⟩ (.slice A3 ys3.length c3) = w4 at HRD ⊢
            clear cz0 cz1 fz0 fz1 HPD HP1 HP2 HS HMd HMa
            generalize htt : wo.heap.size = tt at HRD ⊢
            clear htt
            have ct0 : w4.cell? ⟨tt, 0, none⟩ = some (.int .i64 4) := Mem.cell_of HRD.out.box2 0
            have ct1 := Mem.cell_of HRD.out.box2 1
            have cb0 : w4.cell? ⟨b7, 0, none⟩ = some (.int .i64 4) := Mem.cell_of HRD.out.box 0
            have cb1 := Mem.cell_of HRD.out.box 1
            have fb0 := Mem.free_of HRD.out.box 0
            have fb1 := Mem.free_of HRD.out.box 1
            have HM5 : Aside0 (Mid W0 b7 ((w4.setCell ⟨b7, 0, none⟩ (.int .i64 4)).setCell ⟨b7, 1, none⟩ (.slice A3 ys3.length c3)) P3 g 4 _ ys3 (.slice A3 ys3.length c3) _) := ⟨HRD.out.lay⟩
            clear HRD
            go_wp2
            go_roundw
            case rel =>
              exact ⟨i + 1, _, _, ys3, A3, c3, _, next_eq hw_, ⟨HLT.out⟩, HM5⟩
            case measure => exact dec_lt HLT.out hw_
        · have b4 : ((i : Int) < 200) = False := eq_false (fun h => h4 (Int.ofNat_lt.1 h))
          have b5 : (i < 200) = False := eq_false h4
          clear h4 hlt
          go_wp2_with (fail)
          go_meet
          case rel => exact ⟨_, _, _, _, _, _, HM⟩
      · have b2 : ((i : Int) < (q : Int)) = False := eq_false (fun h => hlt (Int.ofNat_lt.1 h))
        have b3 : (i < q) = False := eq_false hlt
        clear hlt
        go_wp2_with (fail)
        go_meet
        case rel => exact ⟨_, _, _, _, _, _, HM⟩
  case rest =>
    clear HM0
    obtain ⟨P, bs, ys, Ay, cy, Q, HM⟩ := hcut
    have HWO := Aside0.mk (ways_out HM.out.net.i)
    go_wp2_with (fail)
    refine HWO.out.mono ?_
    rintro e w2 ⟨rfl, ho⟩
    have fq := func_nil w2 #[.pointer (some ⟨wc.heap.size, 0, none⟩)]
    have HO := Aside0.mk ho
    have hb2 : Below wc.heap.size wc w2 := by obtain ⟨_, _, _, _, h⟩ := ho; exact h
    have HM2 := Aside0.mk (HM.out.next hb2)
    clear ho HWO hb2
    have kc := fun (w : World) (C : Array Value) (n c : Nat) => Lib.run_convert_bytes_const (P := Try.prog) w 22 5 C n c Try.underlying22 Try.underlying5
    have HBL := Aside0.mk (below_alloc (Below.refl w2.heap.size w2) (.cells #[.int .u8 108, .int .u8 97, .int .u8 116, .int .u8 101, .int .u8 114] 5 (5, 6)))
    have HM3 := Aside0.mk (HM2.out.next HBL.out)
    have HCC := Aside0.mk (const_C w2 [108, 97, 116, 101, 114] (5, 6) (by decide))
    have HSN := Aside0.mk (HM3.out.net.send 3 2 _ 5 [108, 97, 116, 101, 114] HCC.out (Nat.le_refl _))
    go_wp2_with (fail)
    refine HSN.out.mono ?_
    rintro e w4 ⟨P4, rfl, hN4, hw4⟩
    have HBX4 : Aside0 (w4.heap[b7]? = some (.cells #[.int .i64 4, .slice Ay ys.length cy] 41 (0, 0))) := ⟨(hw4.kept.block b7 (blk_lt HM3.out.box) (fun hp => (HM3.out.pb b7 hp).1 rfl)).trans HM3.out.box⟩
    have HV4 := Aside0.mk (V_went HM3.out.view hw4 HM3.out.qp)
    have HB4 := Aside0.mk (Went.to_below hw4 HM3.out.below (fun k hk => (HM3.out.pb k hk).2))
    have HG4 := Aside0.mk (gone_kept HO.out HBL.out hw4 HM.out.net.lt)
    obtain ⟨ws, hws⟩ : ∃ ws, waysL 4 bs (4 * 4) = ws := ⟨_, rfl⟩
    have HWL : Aside0 (ws.length ≤ 16) := ⟨by rw [← hws]; exact ways_length 4 bs (4 * 4)⟩
    rw [hws] at HG4
    obtain ⟨kw, hkw⟩ := ways_f HM.out.tie (by decide) (tie_small HM.out.tie HM.out.net.small (by decide))
    rw [hws] at hkw
    have HWR := Aside0.mk (topiaryref08_Ways.calls kw 4 Ay cy ys _ w4 (Kd.V_reads' HV4.out).2.2 (Kd.V_reads' HV4.out).2.1 hkw)
    clear hkw hws hN4 hw4 HSN HCC HM3 HM2 HBL HO kc
    have cb0 := Mem.cell_of HBX4.out 0
    have cb1 := Mem.cell_of HBX4.out 1
    go_wp2_with (fail)
    refine HWR.out.mono ?_
    rintro e w5 ⟨v5, rfl, hR5, hb5⟩
    obtain ⟨A5, c5, rfl⟩ := Kd.R_slice hR5
    have HW5 := Aside0.mk (cells_out hR5)
    have HB5 := Aside0.mk hb5
    clear hR5 hb5 HWR cb0 cb1
    go_wp2_with (fail)
    have HB5' := Aside0.mk (HB4.out.trans (HB5.out.mono HB4.out.size))
    have HG5 := Aside0.mk (HG4.out.below HB5.out)
    have HU1 : Aside0 (((w5.alloc (.cells #[.slice A5 ws.length c5] 52)).alloc (.cells #[.int .i64 0] 3)).heap[w5.heap.size]? = some (.cells #[.slice A5 ws.length c5] 52 (0, 0))) := ⟨Mem.alloc_old (Mem.alloc_new _ _) _⟩
    have HU2 : Aside0 (((w5.alloc (.cells #[.slice A5 ws.length c5] 52)).alloc (.cells #[.int .i64 0] 3)).heap[w5.heap.size + 1]? = some (.cells #[.int .i64 0] 3 (0, 0))) := ⟨Mem.alloc_new_at _ _ _ (by rw [Mem.alloc_size])⟩
    have HUB : Aside0 (Below w5.heap.size w5 ((w5.alloc (.cells #[.slice A5 ws.length c5] 52)).alloc (.cells #[.int .i64 0] 3))) := ⟨below_alloc (below_alloc (Below.refl _ _) _) _⟩
    have HUS : Aside0 (((w5.alloc (.cells #[.slice A5 ws.length c5] 52)).alloc (.cells #[.int .i64 0] 3)).heap.size = w5.heap.size + 2) := ⟨by rw [Mem.alloc_size, Mem.alloc_size]⟩
    generalize (w5.alloc (.cells #[.slice A5 ws.length c5] 52)).alloc (.cells #[.int .i64 0] 3) = U at HU1 HU2 HUB HUS ⊢
    have HGU := Aside0.mk (HG5.out.below HUB.out)
    have HWU := Aside0.mk (HW5.out.same (Same.below HUB.out (fun i hi => hi.2)))
    have HBU : Aside0 (Below W.heap.size W U) := ⟨HB0.out.trans ((HB5'.out.trans (HUB.out.mono HB5'.out.size)).mono HB0.out.size)⟩
    have HXU : Aside0 (U.heap[W.heap.size]? = some (.cells #[.int .i64 x'] 3 (0, 0))) := ⟨(HUB.out.block _ (Nat.lt_of_lt_of_le (blk_lt HBX.out) HB5'.out.size)).trans ((HB5'.out.block _ (blk_lt HBX.out)).trans HBX.out)⟩
    have HYU : Aside0 (U.heap[W.heap.size + 1]? = some (.cells #[.bool false] 4 (0, 0))) := ⟨(HUB.out.block _ (Nat.lt_of_lt_of_le (blk_lt HBY.out) HB5'.out.size)).trans ((HB5'.out.block _ (blk_lt HBY.out)).trans HBY.out)⟩
    have HSZ : Aside0 (W.heap.size + 1 < w4.heap.size ∧ w4.heap.size ≤ w5.heap.size ∧ wc.heap.size < w4.heap.size ∧ w2.heap.size ≤ w4.heap.size) := ⟨Nat.lt_of_lt_of_le (blk_lt HBY.out) HB4.out.size, HB5.out.size, HG4.out.2.1 _ HG4.out.1, Nat.le_of_not_lt (fun h => Nat.lt_irrefl _ (HG4.out.2.1 w4.heap.size ⟨by have := HG4.out.2.1 _ HG4.out.1; omega, h⟩))⟩
    clear HB5' HG5 HG4 HB4 HBX4 HV4 HB5 HW5 HUB HM
    generalize hb12 : w5.heap.size = b12 at *
    generalize hbx : wc.heap.size = bx at *
    generalize hsb : (fun i => w4.heap.size ≤ i ∧ i < b12) = S2 at *
    generalize hsa : (fun i => bx ≤ i ∧ i < w2.heap.size) = S1 at *
    have hs1 : ∀ i, S1 i → i < b12 := fun i hi => by rw [← hsa] at hi; have := HSZ.out; have h2 := hi.2; omega
    have hs2 : ∀ i, S2 i → W.heap.size + 1 < i ∧ i < b12 := fun i hi => by rw [← hsb] at hi; have := HSZ.out; have h1 := hi.1; have h2 := hi.2; omega
    have hlo : W.heap.size + 1 < b12 := by have := HSZ.out; omega
    have HLO := Aside0.mk (And.intro hs1 (And.intro hs2 hlo))
    have HUS' : Aside0 (U.heap.size = b12 + 2) := ⟨HUS.out⟩
    clear HUS HSZ hs1 hs2 hlo hsa hsb hbx hb12
    rename Act → World → Prop => K0
    rename (∀ (a : Act) (w : World), _ → K0 a w) => hK0
    have TAIL : ∀ (D i : Nat) (Wd : World), U.heap.size ≤ D → Aside0 (Wd.heap[b12 + 1]? = some (.cells #[.int .i64 (i : Int)] 3 (0, 0))) → Aside0 (i = ws.length ∨ (i : Int) = x') → Aside0 (KeptBut (b12 + 1) U Wd) → Aside0 (Below W.heap.size W Wd) → Aside0 (Wd.heap[D]? = some (.deferred (some []))) →
        K0 { tmps := #[.slice A q c, .int .i64 x', undef, .pointer (some ⟨W.heap.size, 0, none⟩), .pointer (some ⟨W.heap.size + 1, 0, none⟩), .pointer (some ⟨g, 0, none⟩), .int .i64 0, .pointer (some ⟨b7, 0, none⟩), u8, u9, u10, .func (.func 38) #[] #[.pointer (some ⟨bx, 0, none⟩)], .pointer (some ⟨b12, 0, none⟩), .pointer (some ⟨b12 + 1, 0, none⟩), undef, undef, undef, .tuple #[.pointer (some ⟨g, 0, none⟩), .int .i64 0], .tuple #[.pointer (some ⟨g, 0, none⟩), .int .i64 0], .pointer (some ⟨g, 0, none⟩), .int .i64 0, .int .i64 0, .bool false, .bool false, .pointer (some ⟨g, 0, none⟩), .bool false, .bool false, .agg #[.int .i64 4, .slice none 0 0], u28, u29, u30, u31, u32, u33, u34, u35, u36, u37, u38, u39, u40, u41, u42, u43, u44, u45, u46, u47, u48, .pointer (some ⟨g, 0, none⟩), .func (.func 38) #[] #[.pointer (some ⟨bx, 0, none⟩)], .func (.func 38) #[] #[.pointer (some ⟨bx, 0, none⟩)], .bool false, .pointer (some ⟨g, 0, none⟩), .slice (some ⟨w2.heap.size, 0, none⟩) 5 5, .slice (some ⟨w2.heap.size, 0, none⟩) 5 5, .int .i64 (putF 4 bs 3 2 ([108, 97, 116, 101, 114], false)).fst, .agg #[.int .i64 4, .slice Ay ys.length cy], .slice A5 ws.length c5, .func (.func 38) #[] #[.pointer (some ⟨bx, 0, none⟩)], undef, undef, undef, undef, undef, undef, undef, undef, undef, undef, undef, undef, undef, undef, undef, undef, undef, undef, undef, undef, undef, undef, undef, undef, undef, undef, undef, undef, undef, undef, undef, undef, undef, undef, undef, undef, undef, undef, undef, undef, undef, undef, undef, undef, undef, undef, undef, undef, undef, undef, undef, undef], defers := [{ target := .collected D, args := #[] }] } Wd := by
      intro D i Wd hD HC1 HI HK1 HB1 HD1
      refine hK0 _ _ ?_
      go_wp2_with (fail)
      have HV15c : Aside0 ((Wd.alloc (.cells #[.int .i64 0] 3)).heap[Wd.heap.size]? = some (.cells #[.int .i64 0] 3 (0, 0))) := ⟨Mem.alloc_new _ _⟩
      have HVB : Aside0 (Below Wd.heap.size Wd (Wd.alloc (.cells #[.int .i64 0] 3))) := ⟨below_alloc (Below.refl _ _) _⟩
      have HV15 : Aside0 (Wd.heap.size ≥ b12 + 2 ∧ (Wd.alloc (.cells #[.int .i64 0] 3)).heap.size = Wd.heap.size + 1) := ⟨by have := HK1.out.1; have := HUS'.out; omega, Mem.alloc_size _ _⟩
      generalize Wd.alloc (.cells #[.int .i64 0] 3) = V at HV15c HVB HV15 ⊢
      have HVX := Aside0.mk ((HVB.out.block _ (blk_lt (HK1.out.cells HXU.out (by have := HLO.out.2.2; omega)))).trans (HK1.out.cells HXU.out (by have := HLO.out.2.2; omega)))
      have HVY := Aside0.mk ((HVB.out.block _ (blk_lt (HK1.out.cells HYU.out (by have := HLO.out.2.2; omega)))).trans (HK1.out.cells HYU.out (by have := HLO.out.2.2; omega)))
      have HV12 := Aside0.mk ((HVB.out.block _ (blk_lt (HK1.out.cells HU1.out (by omega)))).trans (HK1.out.cells HU1.out (by omega)))
      have HV13 := Aside0.mk ((HVB.out.block _ (blk_lt HC1.out)).trans HC1.out)
      have HVD := Aside0.mk ((HVB.out.block _ (blk_lt HD1.out)).trans HD1.out)
      have HGV := Aside0.mk ((HK1.out.lain HGU.out (fun h => by have := HLO.out.1 _ h; omega)).below HVB.out)
      have HWV := Aside0.mk ((HK1.out.ways HWU.out (fun i hi => by have := HUS'.out; have := HLO.out.2.1 i hi; exact ⟨by omega, by omega⟩)).same (Same.below HVB.out (fun i hi => by have := HV15.out; have := HLO.out.2.1 i hi; omega)))
      have HBV : Aside0 (Below W.heap.size W V) := ⟨HB1.out.trans (HVB.out.mono HB1.out.size)⟩
      have HDW : Aside0 (D < Wd.heap.size) := ⟨blk_lt HD1.out⟩
      generalize hb15 : Wd.heap.size = b15 at *
      clear hb15 HK1 HC1 HD1 HVB HB1
      refine (wpIn_wide (n := 3)).1 ?_
      refine wpIn_rangeFunc_ownH (F := Fence.wide) (n := 3) rfl (by decide) (gf := 38) (lb := #[.pointer (some ⟨bx, 0, none⟩)]) rfl trivial (enters_of Try.func38 (by kernel_rfl) rfl)
        (HGV.out.stops (by have := HWL.out; omega)) Same.trans (fun W l o o' hl _ _ _ => Same.put W l o' (fun i hi => by have := HGV.out.2.1 i hi; omega)) (Below.refl _ _) (fun _ => rfl)
        (LI b15 W.heap.size W V) (fun c pre _ => c = .ret ∧ ¬ pre <+: ws)
        (kept_own (blk_lt HV15c.out) (fun (pre : List S55) => #[.int .i64 (pre.length : Int)]) (Nat.le_refl _) HBV.out.size) (fun _ _ _ _ _ hs _ _ => hs)
        ⟨⟨KeptBut.refl _ _, HV15c.out⟩, HBV.out⟩
        (fun x a' Wr => ∃ Bx, V.heap.size ≤ Bx ∧ Wr.heap[Bx]? = some (.cells #[.int .i64 x.f0, .int .i64 x.f1, .int .i64 x.f2] 55 (0, 0)) ∧ a' = { tmps := #[.slice A q c, .int .i64 x', undef, .pointer (some ⟨W.heap.size, 0, none⟩), .pointer (some ⟨W.heap.size + 1, 0, none⟩), .pointer (some ⟨g, 0, none⟩), .int .i64 0, .pointer (some ⟨b7, 0, none⟩), u8, u9, u10, .func (.func 38) #[] #[.pointer (some ⟨bx, 0, none⟩)], .pointer (some ⟨b12, 0, none⟩), .pointer (some ⟨b12 + 1, 0, none⟩), undef, .pointer (some ⟨b15, 0, none⟩), .pointer (some ⟨Bx, 0, none⟩), .tuple #[.pointer (some ⟨g, 0, none⟩), .int .i64 0], .tuple #[.pointer (some ⟨g, 0, none⟩), .int .i64 0], .pointer (some ⟨g, 0, none⟩), .int .i64 0, .int .i64 0, .bool false, .bool false, .pointer (some ⟨g, 0, none⟩), .bool false, .bool false, .agg #[.int .i64 4, .slice none 0 0], u28, u29, u30, u31, u32, u33, u34, u35, u36, u37, u38, u39, u40, u41, u42, u43, u44, u45, u46, u47, u48, .pointer (some ⟨g, 0, none⟩), .func (.func 38) #[] #[.pointer (some ⟨bx, 0, none⟩)], .func (.func 38) #[] #[.pointer (some ⟨bx, 0, none⟩)], .bool false, .pointer (some ⟨g, 0, none⟩), .slice (some ⟨w2.heap.size, 0, none⟩) 5 5, .slice (some ⟨w2.heap.size, 0, none⟩) 5 5, .int .i64 (putF 4 bs 3 2 ([108, 97, 116, 101, 114], false)).fst, .agg #[.int .i64 4, .slice Ay ys.length cy], .slice A5 ws.length c5, .func (.func 38) #[] #[.pointer (some ⟨bx, 0, none⟩)], undef, undef, undef, undef, undef, undef, undef, undef, undef, undef, undef, undef, undef, undef, undef, undef, undef, undef, .func (.func 38) #[] #[.pointer (some ⟨bx, 0, none⟩)], .agg #[.int .i64 x.f0, .int .i64 x.f1, .int .i64 x.f2], undef, undef, undef, undef, undef, undef, undef, undef, undef, undef, undef, undef, undef, undef, undef, undef, undef, undef, undef, undef, undef, undef, undef, undef, undef, undef, undef, undef, undef, undef, undef, undef], defers := [] })
        (fun x a' _ X Y row hs hg hr => by obtain ⟨Bx, h1, h2, h3⟩ := hs; exact ⟨Bx, h1, cells_own Bx 55 (fun (_ : Unit) => #[Value.int .i64 x.f0, .int .i64 x.f1, .int .i64 x.f2]) () X Y row h2 hg (fun r e => (hr r e).2), h3⟩)
        ?assign2 ?body2 ?done2 ?stop2
      case assign2 =>
        rintro l pre x Wr K hI hK
        dsimp only [encW]
        gi_wp2
        exact hK _ _ ((KeepsOthers.alloc _ _).from _) (Same.below ((Below.refl Wr.heap.size Wr).alloc (Nat.le_refl _) _) (fun i hi => Nat.lt_of_lt_of_le (HGV.out.2.1 i hi) hI.1.1.1)) ⟨⟨hI.1.1.on (below_alloc (Below.refl _ _) _), Mem.alloc_old hI.1.2 _⟩, hI.2.alloc hI.2.size _⟩ ⟨Wr.heap.size, hI.1.1.1, Mem.alloc_new _ _, rfl⟩
      case body2 =>
        rintro l pre x a' Wr hl ⟨r, hr⟩ ⟨⟨hK, hc⟩, hB⟩ ⟨Bx, hBx, bX, rfl⟩ hlt
        obtain ⟨k, hk⟩ : ∃ k, pre.length = k := ⟨_, rfl⟩
        have HLT := Aside0.mk hlt
        rw [hk] at hc hlt
        have HPL := Aside0.mk hk
        have hlo := HLO.out.2.2
        have HC12 := Aside0.mk (hK.cells HV12.out (by have := HV15.out; omega))
        have HC4 := Aside0.mk (hK.cells HVY.out (by have := HV15.out; omega))
        have c12 := Mem.cell_of HC12.out 0
        have c13 := Mem.cell_of hc 0
        have c4 := Mem.cell_of HC4.out 0
        have f13 := Mem.free_of hc 0
        have f4 := Mem.free_of HC4.out 0
        have x0 := Mem.cell_of bX 0
        have x1 := Mem.cell_of bX 1
        have x2 := Mem.cell_of bX 2
        have HBX := Aside0.mk bX
        have HRR := Aside0.mk hr
        have HWS := Aside0.mk (hK.ways HWV.out (fun i hi => by have := HV15.out; have := HLO.out.2.1 i hi; exact ⟨by omega, by omega⟩))
        obtain ⟨gb, rfl, hgb, g0, g1, g2⟩ := HWS.out k hlt
        have HWL' := HWL.out
        obtain ⟨y, hy⟩ : ∃ y, ws.getD k z55 = y := ⟨_, rfl⟩
        rw [hy] at g0 g1 g2
        have HEY := Aside0.mk hy
        have HC := Aside0.mk hc
        have HKB := Aside0.mk hK
        have HBB := Aside0.mk hB
        have b4 : ((ws.length : Int) ≤ (k : Int)) = False := eq_false (fun h => by omega)
        have b5 : (ws.length ≤ k) = False := eq_false (fun h => by omega)
        have b6 : decide ((ws.length : Int) ≤ (k : Int)) = false := decide_eq_false (fun h => by omega)
        have hkn : (k : Int).toNat = k := Int.toNat_natCast k
        have hkp : (0 : Int) ≤ (k : Int) := Int.natCast_nonneg k
        have hkl : (k : Int) < (ws.length : Int) := Int.ofNat_lt.2 hlt
        have hw_ : wrap64 ((k : Int) + 1) = (k : Int) + 1 := by unfold wrap64; omega
        have ky := fun (w : World) => way_neq w x y
        clear bX hr hgb hc hK hB hk hy
        obtain ⟨bb, hbb⟩ : ∃ bb, (!(x.f0 == y.f0 && (x.f1 == y.f1 && (x.f2 == y.f2)))) = bb := ⟨_, rfl⟩
        have HBQ := Aside0.mk hbb
        simp only [hbb] at ky
        clear hbb
        gi_upto_region 25 with (fail)
        dsimp only
        gi_cut [91] from 112 (fun v wr => v = .bool bb ∧ Aside0 (wr = Wr.drew))
        case first =>
          gi_region
          all_goals
            gi_wp2_with (fail)
            gi_meet
            case rel => exact ⟨rfl, ⟨rfl⟩⟩
        case rest =>
          obtain ⟨rfl, HWR⟩ := hcut
          obtain rfl := HWR.out
          cases bb with
          | false =>
            have H2 : Aside0 (x = ws.getD k z55) := ⟨by rw [HEY.out]; exact way_same.1 (by simpa using HBQ.out)⟩
            gi_wp2_with (fail)
            have HST := LI.step (S := S1) HKB.out HC.out HBB.out x HPL.out (fun i hi => by have h1_ := HGV.out.2.1 i hi; have h2_ := HKB.out.1; have h3_ := HLO.out.1 i hi; have h4_ := HV15.out; exact ⟨by omega, by omega⟩) (by have := HV15.out; omega)
            exact ⟨HST.1.from _, HST.2.1, HST.2.2⟩
          | true =>
            have H2 : Aside0 (x ≠ ws.getD k z55) := ⟨fun e => by rw [HEY.out] at e; have h := HBQ.out; rw [way_same.2 e] at h; cases h⟩
            gi_wp2_with (fail)
            exact ⟨((KeepsOthers.drew _).trans (KeepsOthers.setCell _ _ _)).from _, ⟨rfl, not_prefix HLT.out (by rw [HPL.out]; exact H2.out)⟩⟩
      case done2 =>
        rintro D2 zs We hD2 hzs ⟨⟨hK, hc⟩, hB⟩ hKD
        rw [hzs] at hc
        have HKB := Aside0.mk hK
        have HC := Aside0.mk hc
        have HBB := Aside0.mk hB
        have HD2 := Aside0.mk hKD
        have hlo := HLO.out.2.2
        have HC3 := Aside0.mk (hK.cells HVX.out (by have := HV15.out; omega))
        have HC4 := Aside0.mk (hK.cells HVY.out (by have := HV15.out; omega))
        have HC12 := Aside0.mk (hK.cells HV12.out (by have := HV15.out; omega))
        have HC13 := Aside0.mk (hK.cells HV13.out (by have := HV15.out; omega))
        have HCD := Aside0.mk ((hK.2 D (by have := HV15.out; have := HDW.out; omega) (by have := HDW.out; omega)).trans HVD.out)
        have c3 := Mem.cell_of HC3.out 0
        have c4 := Mem.cell_of HC4.out 0
        have f4 := Mem.free_of HC4.out 0
        have c12 := Mem.cell_of HC12.out 0
        have c13 := Mem.cell_of HC13.out 0
        have c15 := Mem.cell_of hc 0
        clear hK hc hB hKD hzs
        by_cases h1 : i = ws.length
        · have b1 : ((i : Int) = (ws.length : Int)) = True := eq_true (congrArg _ h1)
          have b2 : ((i : Int) == (ws.length : Int)) = true := by rw [h1]; exact beq_self_eq_true _
          have b3 : (i = ws.length) = True := eq_true h1
          have H1 := Aside0.mk h1
          clear h1
          go_wp2_with (fail)
          refine (awake_calls _).mono ?_
          rintro e w9 ⟨rfl, hb9⟩
          have HY9 := Aside0.mk ((hb9.block _ (blk_lt HC4.out)).trans HC4.out)
          have HE9 := Aside0.mk ((hb9.block _ (blk_lt HD2.out)).trans HD2.out)
          have HF9 := Aside0.mk ((hb9.block _ (blk_lt HCD.out)).trans HCD.out)
          have HB9 := Aside0.mk (HBB.out.trans (hb9.mono HBB.out.size))
          clear hb9 c4 f4
          have c4 := Mem.cell_of HY9.out 0
          have f4 := Mem.free_of HY9.out 0
          go_wp2_with (fail)
          have hDn : D < D2 := by have := HDW.out; have := HV15.out; omega
          have hD0 : W.heap.size + 1 < D := by have := HUS'.out; omega
          have he1 := (Mem.set_other w9 ⟨W.heap.size + 1, 0, none⟩ (.bool true) D2 (by show D2 ≠ W.heap.size + 1; omega)).trans HE9.out
          have he2 := (Mem.set_other w9 ⟨W.heap.size + 1, 0, none⟩ (.bool true) D (by show D ≠ W.heap.size + 1; omega)).trans HF9.out
          have he3 := Mem.set_heap HY9.out 0 (.bool true)
          have he4 : ((w9.setCell ⟨W.heap.size + 1, 0, none⟩ (.bool true)).putObj D2 (.deferred none)).heap[D]? = _ := (World.putObj_heap_other (by omega)).trans he2
          have he5 : ((w9.setCell ⟨W.heap.size + 1, 0, none⟩ (.bool true)).putObj D2 (.deferred none)).heap[W.heap.size + 1]? = _ := (World.putObj_heap_other (by omega)).trans he3
          have he6 : (((w9.setCell ⟨W.heap.size + 1, 0, none⟩ (.bool true)).putObj D2 (.deferred none)).putObj D (.deferred none)).heap[W.heap.size + 1]? = some (.cells #[.bool true] 4 (0, 0)) := (World.putObj_heap_other (by omega)).trans he5
          refine ⟨by simp, .inl ⟨_, _, rfl, run_takeDeferred he1, by simp, .inl ⟨_, _, rfl, run_takeDeferred he4, ?_⟩⟩⟩
          refine ⟨_, results_c1 rfl _ _ (W.heap.size + 1) (.bool true) rfl (Mem.cell_of he6 0) Try.underlying4, rfl, ?_⟩
          exact ((below_set HB9.out (Nat.le_succ _)).trans (belowK_b (w := V) HBV.out.size _ D2 _ _ hD2 he1 rfl rfl)).trans (belowK_b (w := U) HBU.out.size _ D _ _ hD he4 rfl rfl)
        · have b1 : ((i : Int) = (ws.length : Int)) = False := eq_false (fun h => h1 (Int.ofNat_inj.1 h))
          have b2 : ((i : Int) == (ws.length : Int)) = false := beq_eq_false_iff_ne.2 (fun h => h1 (Int.ofNat_inj.1 h))
          have b3 : (i = ws.length) = False := eq_false h1
          have h2 : (i : Int) = x' := HI.out.resolve_left h1
          have b4 : ((i : Int) = x') = True := eq_true h2
          have b5 : ((i : Int) == x') = true := beq_iff_eq.2 h2
          clear h1 h2
          go_wp2_with (fail)
          refine (awake_calls _).mono ?_
          rintro e w9 ⟨rfl, hb9⟩
          have HY9 := Aside0.mk ((hb9.block _ (blk_lt HC4.out)).trans HC4.out)
          have HE9 := Aside0.mk ((hb9.block _ (blk_lt HD2.out)).trans HD2.out)
          have HF9 := Aside0.mk ((hb9.block _ (blk_lt HCD.out)).trans HCD.out)
          have HB9 := Aside0.mk (HBB.out.trans (hb9.mono HBB.out.size))
          clear hb9 c4 f4
          have c4 := Mem.cell_of HY9.out 0
          have f4 := Mem.free_of HY9.out 0
          go_wp2_with (fail)
          have hDn : D < D2 := by have := HDW.out; have := HV15.out; omega
          have hD0 : W.heap.size + 1 < D := by have := HUS'.out; omega
          have he1 := (Mem.set_other w9 ⟨W.heap.size + 1, 0, none⟩ (.bool true) D2 (by show D2 ≠ W.heap.size + 1; omega)).trans HE9.out
          have he2 := (Mem.set_other w9 ⟨W.heap.size + 1, 0, none⟩ (.bool true) D (by show D ≠ W.heap.size + 1; omega)).trans HF9.out
          have he3 := Mem.set_heap HY9.out 0 (.bool true)
          have he4 : ((w9.setCell ⟨W.heap.size + 1, 0, none⟩ (.bool true)).putObj D2 (.deferred none)).heap[D]? = _ := (World.putObj_heap_other (by omega)).trans he2
          have he5 : ((w9.setCell ⟨W.heap.size + 1, 0, none⟩ (.bool true)).putObj D2 (.deferred none)).heap[W.heap.size + 1]? = _ := (World.putObj_heap_other (by omega)).trans he3
          have he6 : (((w9.setCell ⟨W.heap.size + 1, 0, none⟩ (.bool true)).putObj D2 (.deferred none)).putObj D (.deferred none)).heap[W.heap.size + 1]? = some (.cells #[.bool true] 4 (0, 0)) := (World.putObj_heap_other (by omega)).trans he5
          refine ⟨by simp, .inl ⟨_, _, rfl, run_takeDeferred he1, by simp, .inl ⟨_, _, rfl, run_takeDeferred he4, ?_⟩⟩⟩
          refine ⟨_, results_c1 rfl _ _ (W.heap.size + 1) (.bool true) rfl (Mem.cell_of he6 0) Try.underlying4, rfl, ?_⟩
          exact ((below_set HB9.out (Nat.le_succ _)).trans (belowK_b (w := V) HBV.out.size _ D2 _ _ hD2 he1 rfl rfl)).trans (belowK_b (w := U) HBU.out.size _ D _ _ hD he4 rfl rfl)
      case stop2 =>
        rintro D2 c pre We _ hsp ⟨_, hne⟩ _
        exact absurd hsp hne
    clear hK0
    refine (wpIn_wide (n := 3)).1 ?_
    refine wpIn_rangeFunc_ownH (F := Fence.wide) (n := 3) rfl (by decide) (gf := 38) (lb := #[.pointer (some ⟨bx, 0, none⟩)]) rfl trivial (enters_of Try.func38 (by kernel_rfl) rfl)
      (HGU.out.stops (by have := HWL.out; omega)) Same.trans (fun W l o o' hl _ _ _ => Same.put W l o' (fun i hi => by have := HGU.out.2.1 i hi; omega)) (Below.refl _ _) (fun _ => rfl)
      (LI (b12 + 1) W.heap.size W U) (LX (b12 + 1) W.heap.size W U x' ws)
      (kept_own (blk_lt HU2.out) (fun (pre : List S55) => #[.int .i64 (pre.length : Int)]) (Nat.le_refl _) HBU.out.size) (LX_own (blk_lt HU2.out) (Nat.le_refl _) HBU.out.size)
      ⟨⟨KeptBut.refl _ _, HU2.out⟩, HBU.out⟩
      (fun x a' Wr => ∃ Bx, U.heap.size ≤ Bx ∧ Wr.heap[Bx]? = some (.cells #[.int .i64 x.f0, .int .i64 x.f1, .int .i64 x.f2] 55 (0, 0)) ∧ a' = { tmps := #[.slice A q c, .int .i64 x', undef, .pointer (some ⟨W.heap.size, 0, none⟩), .pointer (some ⟨W.heap.size + 1, 0, none⟩), .pointer (some ⟨g, 0, none⟩), .int .i64 0, .pointer (some ⟨b7, 0, none⟩), u8, u9, u10, .func (.func 38) #[] #[.pointer (some ⟨bx, 0, none⟩)], .pointer (some ⟨b12, 0, none⟩), .pointer (some ⟨b12 + 1, 0, none⟩), .pointer (some ⟨Bx, 0, none⟩), undef, undef, .tuple #[.pointer (some ⟨g, 0, none⟩), .int .i64 0], .tuple #[.pointer (some ⟨g, 0, none⟩), .int .i64 0], .pointer (some ⟨g, 0, none⟩), .int .i64 0, .int .i64 0, .bool false, .bool false, .pointer (some ⟨g, 0, none⟩), .bool false, .bool false, .agg #[.int .i64 4, .slice none 0 0], u28, u29, u30, u31, u32, u33, u34, u35, u36, u37, u38, u39, u40, u41, u42, u43, u44, u45, u46, u47, u48, .pointer (some ⟨g, 0, none⟩), .func (.func 38) #[] #[.pointer (some ⟨bx, 0, none⟩)], .func (.func 38) #[] #[.pointer (some ⟨bx, 0, none⟩)], .bool false, .pointer (some ⟨g, 0, none⟩), .slice (some ⟨w2.heap.size, 0, none⟩) 5 5, .slice (some ⟨w2.heap.size, 0, none⟩) 5 5, .int .i64 (putF 4 bs 3 2 ([108, 97, 116, 101, 114], false)).fst, .agg #[.int .i64 4, .slice Ay ys.length cy], .slice A5 ws.length c5, .func (.func 38) #[] #[.pointer (some ⟨bx, 0, none⟩)], .agg #[.int .i64 x.f0, .int .i64 x.f1, .int .i64 x.f2], undef, undef, undef, undef, undef, undef, undef, undef, undef, undef, undef, undef, undef, undef, undef, undef, undef, undef, undef, undef, undef, undef, undef, undef, undef, undef, undef, undef, undef, undef, undef, undef, undef, undef, undef, undef, undef, undef, undef, undef, undef, undef, undef, undef, undef, undef, undef, undef, undef, undef, undef], defers := [] })
      (fun x a' _ X Y row hs hg hr => by obtain ⟨Bx, h1, h2, h3⟩ := hs; exact ⟨Bx, h1, cells_own Bx 55 (fun (_ : Unit) => #[Value.int .i64 x.f0, .int .i64 x.f1, .int .i64 x.f2]) () X Y row h2 hg (fun r e => (hr r e).2), h3⟩)
      ?assign ?body ?done ?stop
    case assign =>
      rintro l pre x Wr K hI hK
      dsimp only [encW]
      gi_wp2
      exact hK _ _ ((KeepsOthers.alloc _ _).from _) (Same.below ((Below.refl Wr.heap.size Wr).alloc (Nat.le_refl _) _) (fun i hi => Nat.lt_of_lt_of_le (HGU.out.2.1 i hi) hI.1.1.1)) ⟨⟨hI.1.1.on (below_alloc (Below.refl _ _) _), Mem.alloc_old hI.1.2 _⟩, hI.2.alloc hI.2.size _⟩ ⟨Wr.heap.size, hI.1.1.1, Mem.alloc_new _ _, rfl⟩
    case body =>
      rintro l pre x a' Wr hl ⟨r, hr⟩ ⟨⟨hK, hc⟩, hB⟩ ⟨Bx, hBx, bX, rfl⟩ hlt
      obtain ⟨k, hk⟩ : ∃ k, pre.length = k := ⟨_, rfl⟩
      have HLT := Aside0.mk hlt
      rw [hk] at hc hlt
      have HPL := Aside0.mk hk
      have hlo := HLO.out.2.2
      have HC3 := Aside0.mk (hK.cells HXU.out (by omega))
      have HC12 := Aside0.mk (hK.cells HU1.out (by omega))
      have HC4 := Aside0.mk (hK.cells HYU.out (by omega))
      have c3 := Mem.cell_of HC3.out 0
      have c12 := Mem.cell_of HC12.out 0
      have c13 := Mem.cell_of hc 0
      have c4 := Mem.cell_of HC4.out 0
      have f13 := Mem.free_of hc 0
      have f4 := Mem.free_of HC4.out 0
      have x0 := Mem.cell_of bX 0
      have x1 := Mem.cell_of bX 1
      have x2 := Mem.cell_of bX 2
      have HBX := Aside0.mk bX
      have HRR := Aside0.mk hr
      have HWS := Aside0.mk (hK.ways HWU.out (fun i hi => by have := HUS'.out; have := HLO.out.2.1 i hi; exact ⟨by omega, by omega⟩))
      obtain ⟨gb, rfl, hgb, g0, g1, g2⟩ := HWS.out k hlt
      have HWL' := HWL.out
      obtain ⟨y, hy⟩ : ∃ y, ws.getD k z55 = y := ⟨_, rfl⟩
      rw [hy] at g0 g1 g2
      have HEY := Aside0.mk hy
      have HC := Aside0.mk hc
      have HKB := Aside0.mk hK
      have HBB := Aside0.mk hB
      have b4 : ((ws.length : Int) ≤ (k : Int)) = False := eq_false (fun h => by omega)
      have b5 : (ws.length ≤ k) = False := eq_false (fun h => by omega)
      have b6 : decide ((ws.length : Int) ≤ (k : Int)) = false := decide_eq_false (fun h => by omega)
      have hkn : (k : Int).toNat = k := Int.toNat_natCast k
      have hkp : (0 : Int) ≤ (k : Int) := Int.natCast_nonneg k
      have hkl : (k : Int) < (ws.length : Int) := Int.ofNat_lt.2 hlt
      have hw_ : wrap64 ((k : Int) + 1) = (k : Int) + 1 := by unfold wrap64; omega
      have ky := fun (w : World) => way_neq w x y
      clear bX hr hgb hc hK hB hk hy
      by_cases h1 : (k : Int) = x'
      · have H1 := Aside0.mk h1
        have b1 : ((k : Int) = x') = True := eq_true h1
        have b2 : ((k : Int) == x') = true := beq_iff_eq.2 h1
        clear h1
        gi_wp2_with (fail)
        exact ⟨(KeepsOthers.refl _).from _, .inl ⟨rfl, HKB.out, ⟨k, H1.out, HC.out⟩, HBB.out⟩⟩
      · have b1 : ((k : Int) = x') = False := eq_false h1
        have b2 : ((k : Int) == x') = false := beq_eq_false_iff_ne.2 h1
        clear h1
        obtain ⟨bb, hbb⟩ : ∃ bb, (!(x.f0 == y.f0 && (x.f1 == y.f1 && (x.f2 == y.f2)))) = bb := ⟨_, rfl⟩
        have HBQ := Aside0.mk hbb
        simp only [hbb] at ky
        clear hbb
        gi_upto_region 19 with (fail)
        gi_cut [75] from 112 (fun v wr => v = .bool bb ∧ Aside0 (wr = Wr.drew))
        case first =>
          gi_region
          all_goals
            gi_wp2_with (fail)
            gi_meet
            case rel => exact ⟨rfl, ⟨rfl⟩⟩
        case rest =>
          obtain ⟨rfl, HWR⟩ := hcut
          obtain rfl := HWR.out
          cases bb with
          | false =>
            have H2 : Aside0 (x = ws.getD k z55) := ⟨by rw [HEY.out]; exact way_same.1 (by simpa using HBQ.out)⟩
            gi_wp2_with (fail)
            have HST := LI.step (S := S1) HKB.out HC.out HBB.out x HPL.out (fun i hi => by have h1_ := HGU.out.2.1 i hi; have h2_ := HKB.out.1; have h3_ := HLO.out.1 i hi; exact ⟨by omega, by omega⟩) (by omega)
            exact ⟨HST.1.from _, HST.2.1, HST.2.2⟩
          | true =>
            have H2 : Aside0 (x ≠ ws.getD k z55) := ⟨fun e => by rw [HEY.out] at e; have h := HBQ.out; rw [way_same.2 e] at h; cases h⟩
            gi_wp2_with (fail)
            exact ⟨((KeepsOthers.drew _).trans (KeepsOthers.setCell _ _ _)).from _, .inr ⟨rfl, not_prefix HLT.out (by rw [HPL.out]; exact H2.out)⟩⟩
    case done =>
      rintro D zs Wd hD hzs ⟨⟨hK, hc⟩, hB⟩ hKD
      rw [hzs] at hc
      obtain ⟨i, hi⟩ : ∃ i, ws.length = i := ⟨_, rfl⟩
      have HC1 : Aside0 (Wd.heap[b12 + 1]? = some (.cells #[.int .i64 (i : Int)] 3 (0, 0))) := ⟨by rw [← hi]; exact hc⟩
      have HI : Aside0 (i = ws.length ∨ (i : Int) = x') := ⟨.inl hi.symm⟩
      have HK1 := Aside0.mk hK
      have HB1 := Aside0.mk hB
      have HD1 := Aside0.mk hKD
      exact TAIL D i Wd hD HC1 HI HK1 HB1 HD1
    case stop =>
      rintro D c' pre Wd hD hsp hix hKD
      rcases hix with ⟨rfl, hK, ⟨i, hi, hc⟩, hB⟩ | ⟨_, hne⟩
      case inr => exact absurd hsp hne
      have HC1 := Aside0.mk hc
      have HI : Aside0 (i = ws.length ∨ (i : Int) = x') := ⟨.inr hi⟩
      have HK1 := Aside0.mk hK
      have HB1 := Aside0.mk hB
      have HD1 := Aside0.mk hKD
      refine wpIn_wide.2 ?_
      go_wp2_with (fail)
      exact TAIL D i Wd hD HC1 HI HK1 HB1 HD1
end Go.Proofs.Ytchepjbdaojidaa.PBags
