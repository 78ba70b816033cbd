/- What the statement's row needs of this session's texts, joined by program: part 4. -/
import Derived.Stop.RegionWithIn
import Derived.Sort.CutIn
import Derived.ControlIn
import Derived.Test.YtnkbgimihikhoaaRows
import Derived.Test.YtnkbgimihikhoaaWWords
import Derived.ChangeArms
import Derived.Below
import Derived.DataElems
import Derived.Test.YtnkbgimihikhoaaQGo2
namespace Go.Proofs.Ytnkbgimihikhoaa.PVt
open Go.RowKit Go.Shelf Go.Proofs.YtnkbgimihikhoaaW.PrintWords Go.Proofs.YtnkbgimihikhoaaW.PrintLast Go.Proofs.YtnkbgimihikhoaaW.PrintMore
attribute [local go_sem] Oper.semAt_some
set_option linter.unusedVariables false
set_option linter.unusedSimpArgs false
def EachP (w : World) (x : S27) (e : Ending) (w' : World) : Prop := ∃ bx B4 e4 B5 e5, e = .returned (.func (.func 58) #[] #[.pointer (some ⟨bx, 0, none⟩)]) ∧ w'.heap[bx]? = some (.cells (cs27 x B4 e4 B5 e5) 27 (0, 0)) ∧ w.heap.size ≤ bx ∧ k27.M w' (w.heap.size + 1) (fun k => k ≠ bx) x (cs27 x B4 e4 B5 e5).toList ∧ Below w.heap.size w w'
set_option maxHeartbeats 8000000 in
set_option maxRecDepth 100000 in
theorem each_calls (w : World) (x : S27) (A4 : Option Addr) (c4 : Nat) (A5 : Option Addr) (c5 : Nat) (hx : RK w x A4 c4 A5 c5) (hf : fitT x) :
    Calls Try.prog 28 #[.agg #[.int .i64 x.f0.f0, .int .i64 x.f0.f1, .string x.f1, .string x.f2, .slice A4 x.f3.length c4, .slice A5 x.f4.length c5]] w (EachP w x) := by
  have hB := below_alloc (Below.refl w.heap.size w) (.cells #[.int .i64 x.f0.f0, .int .i64 x.f0.f1, .string x.f1, .string x.f2, .slice A4 x.f3.length c4, .slice A5 x.f4.length c5] 27)
  have HRX := Aside0.mk (hx.below hB)
  have HB0 := Aside0.mk hB
  have HF := Aside0.mk hf
  clear hx hB hf
  go_enter Try.func28, Try.ntmps28
  go_wp2_with (fail)
  refine (vcopy_calls _ x _ _ _ _ HRX.out HF.out).mono ?_
  rintro e w1 ⟨B4, e4, B5, e5, rfl, hM1, hb1⟩
  dsimp only
  have HM := Aside0.mk hM1
  have HB1 := Aside0.mk (HB0.out.trans (hb1.mono HB0.out.size))
  clear hM1 hb1
  go_wp2_with (fail)
  go_ret
  refine ⟨w1.heap.size, B4, e4, B5, e5, rfl, Mem.alloc_new _ _, HB1.out.size, ?_, below_alloc HB1.out _⟩
  have h2 := k27.M_bound HM.out
  rw [Mem.alloc_size] at h2
  refine k27.M_mono (fun k hk => ?_) (k27.M_move (fun k hk => ?_) h2)
  · have := hk.2.2.1; exact Nat.ne_of_lt this
  · exact (below_alloc (Below.refl w1.heap.size w1) _).block k hk.2.2.1
/-- A node that is handed to a round: a copy, in blocks from base on. -/
structure Ng where
  d : Nat
  x : S27
  cs : List Value
  base : Nat
def plg (p : Ng) : Nat × S27 := (p.d, p.x)
def encG (p : Ng) : Array Value := #[.int .i64 (p.d : Int), .agg p.cs.toArray]
/-- What a round is told. -/
def Lkg (w0 : World) (n0 n1 : Nat) (X : List (Nat × S27)) (pre : List Ng) (p : Ng) (W : World) : Prop :=
  k27.M W p.base (fun _ => True) p.x p.cs ∧ fitT p.x ∧ (pre ++ [p]).map plg <+: X ∧ (∀ i, i < n0 → W.heap[i]? = w0.heap[i]?) ∧ n1 ≤ p.base ∧ p.base ≤ W.heap.size
/-- What a round keeps: all below n0; of what lay ahead of the copy, all nodes' cells, and all cells from n1 on. -/
structure Kg (n0 n1 : Nat) (p : Ng) (W W' : World) : Prop where
  size : W.heap.size ≤ W'.heap.size
  low : ∀ i, i < n0 → W'.heap[i]? = W.heap[i]?
  node : ∀ i c fr, i < p.base → W.heap[i]? = some (.cells c 27 fr) → W'.heap[i]? = some (.cells c 27 fr)
  rest : ∀ i c t fr, n1 ≤ i → i < p.base → W.heap[i]? = some (.cells c t fr) → W'.heap[i]? = some (.cells c t fr)
theorem Kg.refl (n0 n1 : Nat) (p : Ng) (W : World) : Kg n0 n1 p W W := ⟨Nat.le_refl _, fun _ _ => rfl, fun _ _ _ _ h => h, fun _ _ _ _ _ _ h => h⟩
theorem Kg.trans {n0 n1 : Nat} (p : Ng) {A B C : World} (h : Kg n0 n1 p A B) (k : Kg n0 n1 p B C) : Kg n0 n1 p A C := ⟨Nat.le_trans h.size k.size, fun i hi => (k.low i hi).trans (h.low i hi), fun i c fr hi hc => k.node i c fr hi (h.node i c fr hi hc), fun i c t fr h1 hi hc => k.rest i c t fr h1 hi (h.rest i c t fr h1 hi hc)⟩
theorem Kg.put {n0 n1 : Nat} (p : Ng) (W : World) (l : Nat) (o o' : Obj) (hn : n0 ≤ l) (h : W.heap[l]? = some o) (hc : o.isCells = false) : Kg n0 n1 p W (W.putObj l o') :=
  ⟨by simp, fun i hi => World.putObj_heap_other (by omega), fun i c fr _ hi => (World.putObj_heap_other (by rintro rfl; rw [h] at hi; cases hi; cases hc)).trans hi, fun i c t fr _ _ hi => (World.putObj_heap_other (by rintro rfl; rw [h] at hi; cases hi; cases hc)).trans hi⟩
theorem Kg.below {n0 n1 : Nat} (p : Ng) {W W' : World} (h : Below p.base W W') (hn : n0 ≤ p.base) : Kg n0 n1 p W W' := ⟨h.size, fun i hi => h.block i (Nat.lt_of_lt_of_le hi hn), fun i c fr hi hc => (h.block i hi).trans hc, fun i c t fr _ hi hc => (h.block i hi).trans hc⟩
theorem Kg.box {n0 n1 o b t : Nat} (p : Ng) {W : World} {c : Array Value} {fr : Nat × Nat} (h : W.heap[b]? = some (.cells c t fr)) (ht : t ≠ 27) (v : Value) (hn : n0 ≤ b) (hb : b < n1) : Kg n0 n1 p W (W.setCell ⟨b, o, none⟩ v) :=
  ⟨by rw [Mem.set_size]; exact Nat.le_refl _, fun i hi => Mem.set_other _ _ _ _ (by show i ≠ b; omega), fun i c fr _ hi => (Mem.set_other _ _ _ _ (by rintro rfl; rw [h] at hi; cases hi; exact ht rfl)).trans hi, fun i c t' fr h1 _ hi => (Mem.set_other _ _ _ _ (by show i ≠ b; omega)).trans hi⟩
/-- The iterator's own state between two rounds: as many have come, and yield lies in its box. -/
def Jg (J : List Ng → World → Prop) (yb l : Nat) (pre : List Nq) (W : World) : Prop := ∃ pre', pre'.map plg = pre.map plq ∧ J pre' W ∧ W.heap[yb]? = some (.cells #[.func (.yield l) #[] #[]] 100 (0, 0))
theorem Jg.abides {J : List Ng → World → Prop} {yb l B : Nat} (hJ : AbidesFrom B J) : AbidesFrom B (Jg J yb l) := fun s W W' row hs hg hr => by
  obtain ⟨pre', h1, h2, h3⟩ := hs
  refine ⟨pre', h1, hJ _ _ _ _ h2 hg hr, (hg.block yb (Array.getElem?_eq_some_iff.1 h3).1 (fun e => ?_)).trans h3⟩
  obtain ⟨_, o, ho, hw⟩ := hr yb e.symm
  rw [h3] at ho
  cases ho
  cases hw
theorem map_snocG {pre' : List Ng} {pre : List Nq} {d : Nat} {y : S27} {cs cs' : List Value} {b : Nat} (h : pre'.map plg = pre.map plq) : (pre' ++ [(⟨d, y, cs', b⟩ : Ng)]).map plg = (pre ++ [(⟨d, y, cs⟩ : Nq)]).map plq := by
  rw [List.map_append, List.map_append, h]; rfl
def BackP (J Jx : List Ng → World → Prop) (yb l n0 : Nat) (pre : List Nq) (d : Nat) (y : S27) (B4 : Option Addr) (e4 : Nat) (B5 : Option Addr) (e5 : Nat) (W : World) (e : Ending) (W' : World) : Prop := ∃ r : Bool, e = .returned (.bool r) ∧
  ((r = true ∧ Jg J yb l (pre ++ [⟨d, y, (#[.int .i64 y.f0.f0, .int .i64 y.f0.f1, .string y.f1, .string y.f2, .slice B4 y.f3.length e4, .slice B5 y.f4.length e5] : Array Value).toList⟩]) W' ∧ Kw n0 (fun _ => False) W W') ∨ (r = false ∧ ∃ pre', pre'.map plg = (pre ++ [(⟨d, y, (#[.int .i64 y.f0.f0, .int .i64 y.f0.f1, .string y.f1, .string y.f2, .slice B4 y.f3.length e4, .slice B5 y.f4.length e5] : Array Value).toList⟩ : Nq)]).map plq ∧ Jx pre' W'))
set_option maxHeartbeats 8000000 in
set_option maxRecDepth 100000 in
theorem back_in (l yb n0 n1 B : Nat) (X : List (Nat × S27)) (w0 : World) (J Jx : List Ng → World → Prop) (hJ : AbidesFrom B J) (hn01 : n0 ≤ n1) (hyb : n1 ≤ yb)
    (hY : ∀ pre x W, J pre W → Lkg w0 n0 n1 X pre x W → YieldAt Fence.wide 1 Try.prog l (encG x) W fun e W' => (e = .returned (.bool true) ∧ J (pre ++ [x]) W' ∧ Kg n0 n1 x W W') ∨ (e = .returned (.bool false) ∧ Jx (pre ++ [x]) W'))
    (pre : List Nq) (d : Nat) (y : S27) (B4 : Option Addr) (e4 : Nat) (B5 : Option Addr) (e5 : Nat) (W : World) (hJ0 : Jg J yb l pre W) (hk : Lkq w0 n0 X pre ⟨d, y, (#[.int .i64 y.f0.f0, .int .i64 y.f0.f1, .string y.f1, .string y.f2, .slice B4 y.f3.length e4, .slice B5 y.f4.length e5] : Array Value).toList⟩ W) (hn : n1 ≤ W.heap.size) :
    CallsIn Fence.wide 1 Try.prog 60 #[.int .i64 (d : Int), .agg #[.int .i64 y.f0.f0, .int .i64 y.f0.f1, .string y.f1, .string y.f2, .slice B4 y.f3.length e4, .slice B5 y.f4.length e5], .pointer (some ⟨yb, 0, none⟩)] W fun e W' =>
      (e = .returned (.bool true) ∧ Jg J yb l (pre ++ [⟨d, y, (#[.int .i64 y.f0.f0, .int .i64 y.f0.f1, .string y.f1, .string y.f2, .slice B4 y.f3.length e4, .slice B5 y.f4.length e5] : Array Value).toList⟩]) W' ∧ Kw n0 (fun _ => False) W W') ∨ (e = .returned (.bool false) ∧ ∃ pre', pre'.map plg = (pre ++ [(⟨d, y, (#[.int .i64 y.f0.f0, .int .i64 y.f0.f1, .string y.f1, .string y.f2, .slice B4 y.f3.length e4, .slice B5 y.f4.length e5] : Array Value).toList⟩ : Nq)]).map plq ∧ Jx pre' W') := by
  obtain ⟨pre', hp, hj, hyl⟩ := hJ0
  obtain ⟨hT, hft, hpx, hlow⟩ := hk
  have HP := Aside0.mk hp
  have HY := Aside0.mk hY
  have HJB := Aside0.mk hJ
  have hb := below_alloc (Below.refl W.heap.size W) (.cells #[.int .i64 y.f0.f0, .int .i64 y.f0.f1, .string y.f1, .string y.f2, .slice B4 y.f3.length e4, .slice B5 y.f4.length e5] 27)
  have HRK : Aside0 (RK (W.alloc (.cells #[.int .i64 y.f0.f0, .int .i64 y.f0.f1, .string y.f1, .string y.f2, .slice B4 y.f3.length e4, .slice B5 y.f4.length e5] 27)).drew y B4 e4 B5 e5) := ⟨(RK.of (Kd.FK_now (hT.low (fun i hi => hlow i hi)))).below (hb.trans ((below_drew (Below.refl _ _)).mono hb.size))⟩
  have HJ0 : Aside0 (J pre' (W.alloc (.cells #[.int .i64 y.f0.f0, .int .i64 y.f0.f1, .string y.f1, .string y.f2, .slice B4 y.f3.length e4, .slice B5 y.f4.length e5] 27)).drew) := ⟨hJ _ _ _ none hj (grown_of_below (hb.trans ((below_drew (Below.refl _ _)).mono hb.size)) none) (fun r e => by cases e)⟩
  have HB := Aside0.mk (hb.trans ((below_drew (Below.refl _ _)).mono hb.size))
  have HPX : Aside0 (∀ (cs' : List Value) (b : Nat), (pre' ++ [(⟨d, y, cs', b⟩ : Ng)]).map plg <+: X) := ⟨fun cs' b => by rw [map_snocG (cs := (#[.int .i64 y.f0.f0, .int .i64 y.f0.f1, .string y.f1, .string y.f2, .slice B4 y.f3.length e4, .slice B5 y.f4.length e5] : Array Value).toList) hp]; exact hpx⟩
  have HLOW := Aside0.mk hlow
  have HFT := Aside0.mk hft
  have HN := Aside0.mk hn
  have HN01 := Aside0.mk hn01
  have HYB := Aside0.mk hyb
  have HYL := Aside0.mk hyl
  have y0 : (W.alloc (.cells #[.int .i64 y.f0.f0, .int .i64 y.f0.f1, .string y.f1, .string y.f2, .slice B4 y.f3.length e4, .slice B5 y.f4.length e5] 27)).cell? ⟨yb, 0, none⟩ = some (.func (.yield l) #[] #[]) := Mem.cell_alloc (Mem.cell_of hyl 0) _
  have z0 : (W.alloc (.cells #[.int .i64 y.f0.f0, .int .i64 y.f0.f1, .string y.f1, .string y.f2, .slice B4 y.f3.length e4, .slice B5 y.f4.length e5] 27)).drew.cell? ⟨yb, 0, none⟩ = some (.func (.yield l) #[] #[]) := y0
  clear hp hj hyl hT hft hpx hlow hb hn hY hJ hn01 hyb
  refine callsIn_of_wp Try.func60 rfl trivial ?_ rfl
  simp only [Try.ntmps60, List.append_toArray, List.size_toArray, List.length_cons, List.length_nil, Nat.reduceAdd, Nat.reduceSub, Array.replicate_succ, Array.replicate_zero, List.push_toArray, List.append_toArray, List.nil_append, List.cons_append]
  gi_wp2_with (fail)
  have HYR : Aside0 (∀ (w3 : World) (C4 : Option Addr) (g4 : Nat) (C5 : Option Addr) (g5 : Nat), k27.M w3 (W.alloc (.cells #[.int .i64 y.f0.f0, .int .i64 y.f0.f1, .string y.f1, .string y.f2, .slice B4 y.f3.length e4, .slice B5 y.f4.length e5] 27)).drew.heap.size (fun _ => True) y (cs27 y C4 g4 C5 g5).toList → Below (W.alloc (.cells #[.int .i64 y.f0.f0, .int .i64 y.f0.f1, .string y.f1, .string y.f2, .slice B4 y.f3.length e4, .slice B5 y.f4.length e5] 27)).drew.heap.size (W.alloc (.cells #[.int .i64 y.f0.f0, .int .i64 y.f0.f1, .string y.f1, .string y.f2, .slice B4 y.f3.length e4, .slice B5 y.f4.length e5] 27)).drew w3 →
      w3.cell? ⟨yb, 0, none⟩ = some (.func (.yield l) #[] #[]) ∧ ∃ fn tmps assign body, (Instr.yield l #[.int .i64 (d : Int), .agg (cs27 y C4 g4 C5 g5)]).run Try.prog w3 = .ok (.round l fn tmps assign body) w3 ∧ RoundIn Fence.wide 1 Try.prog l fn tmps assign body w3 (BackP J Jx yb l n0 pre d y B4 e4 B5 e5 W)) := ⟨fun w3 C4 g4 C5 g5 hM hb3 => by
    have hb := HB.out.trans (hb3.mono HB.out.size)
    have hyl3 := (hb.block _ (blk_lt' HYL.out)).trans HYL.out
    have hsz : W.heap.size ≤ (W.alloc (.cells #[.int .i64 y.f0.f0, .int .i64 y.f0.f1, .string y.f1, .string y.f2, .slice B4 y.f3.length e4, .slice B5 y.f4.length e5] 27)).drew.heap.size := HB.out.size
    refine ⟨Mem.cell_of hyl3 0, ?_⟩
    obtain ⟨fn, tmps, assign, body, hy, hR⟩ := HY.out pre' ⟨d, y, _, (W.alloc (.cells #[.int .i64 y.f0.f0, .int .i64 y.f0.f1, .string y.f1, .string y.f2, .slice B4 y.f3.length e4, .slice B5 y.f4.length e5] 27)).drew.heap.size⟩ w3 (HJB.out _ _ _ none HJ0.out (grown_of_below hb3 none) (fun r e => by cases e)) ⟨hM, HFT.out, HPX.out _ _, fun i hi => (hb.block i (Nat.lt_of_lt_of_le hi (Nat.le_trans HN01.out HN.out))).trans (HLOW.out i hi), Nat.le_trans HN.out hsz, hb3.size⟩
    refine ⟨fn, tmps, assign, body, hy, hR.mono ?_⟩
    rintro e W' (⟨rfl, hj, hkg⟩ | ⟨rfl, hj⟩)
    · refine ⟨true, rfl, .inl ⟨rfl, ⟨_, map_snocG HP.out, hj, hkg.rest _ _ _ _ HYB.out (Nat.lt_of_lt_of_le (blk_lt' HYL.out) hsz) hyl3⟩, ?_⟩⟩
      have hn0 : n0 ≤ W.heap.size := Nat.le_trans HN01.out HN.out
      exact ⟨Nat.le_trans hb.size hkg.size, fun i hi => (hkg.low i hi).trans (hb.block i (Nat.lt_of_lt_of_le hi hn0)), fun i c fr _ hi => hkg.node i c fr (Nat.lt_of_lt_of_le (Array.getElem?_eq_some_iff.1 hi).1 hsz) ((hb.block i (Array.getElem?_eq_some_iff.1 hi).1).trans hi)⟩
    · exact ⟨false, rfl, .inr ⟨rfl, _, map_snocG HP.out, hj⟩⟩⟩
  have hx0 := Mem.cell_of (Mem.alloc_new W (.cells #[.int .i64 y.f0.f0, .int .i64 y.f0.f1, .string y.f1, .string y.f2, .slice B4 y.f3.length e4, .slice B5 y.f4.length e5] 27)) 0
  clear y0
  gi_region_with (first | ((refine ⟨trivial, ?_⟩); (refine (callsIn_wide.2 (vcopy_calls (W.alloc (.cells #[.int .i64 y.f0.f0, .int .i64 y.f0.f1, .string y.f1, .string y.f2, .slice B4 y.f3.length e4, .slice B5 y.f4.length e5] 27)).drew y B4 e4 B5 e5 HRK.out HFT.out)).mono ?_); rintro e w3 ⟨C4, g4, C5, g5, rfl, hM3, hb3⟩; obtain ⟨q0, fn, tmps, assign, body, hy, hR⟩ := HYR.out w3 C4 g4 C5 g5 hM3 hb3; have HRD := Aside0.mk hR; clear hM3 hb3 hR) | ((refine (round_any rfl HRD.out).mono ?_); rintro e W' ⟨r, rfl, hP⟩; have HPP := Aside0.mk hP; clear hP))
  all_goals
    gi_wp2_with (fail)
    refine bodyPost_ret (results_tmp rfl _ _ _) rfl ?_
    rcases HPP.out with ⟨rfl, h1, h2⟩ | ⟨rfl, h⟩
    · exact .inl ⟨rfl, h1, h2⟩
    · exact .inr ⟨rfl, h⟩
set_option maxHeartbeats 8000000 in
set_option maxRecDepth 100000 in
/-- The function that Each hands back goes over copies of the tree's nodes. -/
theorem each_tells {w w0 : World} {n0 bx : Nat} {x : S27} {A4 : Option Addr} {c4 : Nat} {A5 : Option Addr} {c5 : Nat} (hd : szT x ≤ 1099511627776) (hfx : fitT x)
    (hT : TK w0 n0 x (#[.int .i64 x.f0.f0, .int .i64 x.f0.f1, .string x.f1, .string x.f2, .slice A4 x.f3.length c4, .slice A5 x.f4.length c5] : Array Value).toList) (hb : ∀ i, i < n0 → w.heap[i]? = w0.heap[i]?) (hn : n0 ≤ w.heap.size) (hbx : w.heap[bx]? = some (.cells #[.int .i64 x.f0.f0, .int .i64 x.f0.f1, .string x.f1, .string x.f2, .slice A4 x.f3.length c4, .slice A5 x.f4.length c5] 27 (0, 0))) :
    Link.Tells Fence.wide 2 Try.prog 58 #[.pointer (some ⟨bx, 0, none⟩)] encG (Kg n0 w.heap.size) (Lkg w0 n0 w.heap.size (flatD 0 x)) (fun ys => ys.map plg = flatD 0 x) (fun ys => ys.map plg <+: flatD 0 x) w := fun l J Jx W hW hJ hJx hY h0 => by
  have hbl := (Array.getElem?_eq_some_iff.1 hbx).1
  have hbW := (hW.block bx hbl).trans hbx
  have hba := below_alloc (Below.refl W.heap.size W) (.cells #[.func (.yield l) #[] #[]] 100)
  have HW := Aside0.mk (walk60_in ⟨W.heap.size, 0, none⟩ n0 W.heap.size (flatD 0 x) (fun _ => False) w0 (Jg J W.heap.size l) (fun pre W' => ∃ pre', pre'.map plg = pre.map plq ∧ Jx pre' W') (Jg.abides hJ)
    (fun pre p V hj hk => by
      obtain ⟨d, y, cs⟩ := p
      have hk' : Lkq w0 n0 (flatD 0 x) pre ⟨d, y, cs⟩ V := hk
      obtain ⟨B4, e4, B5, e5, rfl, _⟩ := (show TK w0 n0 y cs from hk'.1).open
      exact back_in l W.heap.size n0 w.heap.size W.heap.size (flatD 0 x) w0 J Jx hJ hn hW.size hY pre d y B4 e4 B5 e5 V hj hk (Nat.le_trans hW.size (by obtain ⟨_, _, _, h⟩ := hj; exact Nat.le_of_lt (Array.getElem?_eq_some_iff.1 h).1)))
    (szT x) 0 x _ [] (W.alloc (.cells #[.func (.yield l) #[] #[]] 100)) (Nat.le_refl _) (by rw [Nat.zero_add]; exact hd) hT hfx (List.prefix_refl _) (fun i hi => ((hba.block i (Nat.lt_of_lt_of_le hi (Nat.le_trans hn hW.size))).trans (hW.block i (Nat.lt_of_lt_of_le hi hn))).trans (hb i hi)) (Nat.le_trans (Nat.le_trans hn hW.size) hba.size) (fun _ h => h.elim)
    ⟨[], rfl, hJ _ _ _ none h0 (World.grownBy_alloc _ _ none) (fun r e => by cases e), Mem.alloc_new _ _⟩)
  have a0 := Mem.cell_alloc (Mem.cell_of hbW 0) (.cells #[.func (.yield l) #[] #[]] 100)
  have a1 := Mem.cell_alloc (Mem.cell_of hbW 1) (.cells #[.func (.yield l) #[] #[]] 100)
  have a2 := Mem.cell_alloc (Mem.cell_of hbW 2) (.cells #[.func (.yield l) #[] #[]] 100)
  have a3 := Mem.cell_alloc (Mem.cell_of hbW 3) (.cells #[.func (.yield l) #[] #[]] 100)
  have a4 := Mem.cell_alloc (Mem.cell_of hbW 4) (.cells #[.func (.yield l) #[] #[]] 100)
  have a5 := Mem.cell_alloc (Mem.cell_of hbW 5) (.cells #[.func (.yield l) #[] #[]] 100)
  clear hbl hbW hbx hd hT hb hn hY h0 hba
  refine callsIn_of_wp Try.func58 rfl trivial ?_ rfl
  simp only [Try.ntmps58, List.append_toArray, List.size_toArray, List.length_cons, List.length_nil, Nat.reduceAdd, Nat.reduceSub, Array.replicate_succ, Array.replicate_zero, List.push_toArray, List.append_toArray, List.nil_append, List.cons_append]
  gi_wp2_with (fail)
  refine ⟨trivial, ?_⟩
  refine (callsIn_wide.2 ((callsIn_wide (n := 1)).1 HW.out)).mono ?_
  rintro e W3 (⟨rfl, ⟨zs, hzs, pre', hp, hJ3, _⟩, hk3⟩ | ⟨rfl, zs, hzs, pre', hp, hx3⟩)
  · have HZ : Aside0 (pre'.map plg = flatD 0 x) := ⟨by rw [hp]; exact hzs⟩
    clear hzs hp
    gi_wp2_with (fail)
    go_end0
    exact ⟨⟨_, rfl⟩, .inl ⟨pre', HZ.out, hJ3⟩⟩
  · have HZ : Aside0 (pre'.map plg <+: flatD 0 x) := ⟨by rw [hp]; exact hzs⟩
    clear hzs hp
    gi_wp2_with (fail)
    go_end0
    exact ⟨⟨_, rfl⟩, .inr ⟨pre', HZ.out, hx3⟩⟩
end Go.Proofs.Ytnkbgimihikhoaa.PVt
namespace Go.Proofs.Ytnkbgimihikhoaa.PVt
open Go.RowKit Go.Proofs.YtnkbgimihikhoaaW.PrintWords Go.Proofs.YtnkbgimihikhoaaW.PrintLast Go.Proofs.YtnkbgimihikhoaaW.PrintMore
attribute [local go_sem] max2_int min2_int max_two min_two
set_option linter.unusedVariables false
set_option linter.unusedSimpArgs false
abbrev kint : Kd Int := Kd.int .i64
def deepI (l : List (Nat × S27)) : List Int := l.map fun p => (p.1 : Int)
theorem deepI_append (l m : List (Nat × S27)) : deepI (l ++ m) = deepI l ++ deepI m := List.map_append
theorem deepI_len (d : Nat) (x : S27) : (deepI (flatD d x)).length = szT x := by unfold deepI; rw [List.length_map, flatD_length]
theorem deepI_eq (d : Nat) (x : S27) : deepI (flatD d x) = (d : Int) :: deepI (flatDs (d + 1) x.f4) := by rw [flatD_eq]; rfl
theorem deeps_len (ys : List Int) (d : Nat) (l : List S27) : (ys ++ (d : Int) :: deepI (flatDs (d + 1) l)).length = ys.length + 1 + szTs l := by
  rw [List.length_append, List.length_cons]; unfold deepI; rw [List.length_map, flatDs_length]; omega
theorem kid_room {m k : Nat} {x : S27} (h : m + szT x ≤ 1099511627776) (hk : k < x.f4.length) : m + 1 + szTs (x.f4.take k) + szT (x.f4.getD k z27) ≤ 1099511627776 := by
  have h1 := szTs_snoc x.f4 hk
  have h2 := szTs_take x.f4 (k + 1)
  have h3 := szT_eq x
  omega
theorem kid_deep {d k : Nat} {x : S27} (h : d + szT x ≤ 1099511627776) (hk : k < x.f4.length) : d + 1 + szT (x.f4.getD k z27) ≤ 1099511627776 := by
  have h1 := szT_kid x.f4 hk
  have h3 := szT_eq x
  omega
set_option maxHeartbeats 4000000 in
set_option maxRecDepth 100000 in
theorem deeps_calls (n0 base : Nat) (hn : n0 ≤ base) : ∀ (q : Nat) (w : World) (x : S27) (A4 : Option Addr) (c4 : Nat) (A5 : Option Addr) (c5 : Nat) (d : Nat) (v : Value) (ys : List Int), szT x ≤ q → TK w n0 x (cs27 x A4 c4 A5 c5).toList → Kd.R kint 3 w base (fun _ => True) v ys → base ≤ w.heap.size → ys.length + szT x ≤ 1099511627776 → d + szT x ≤ 1099511627776 →
    Calls Try.prog 62 #[.agg (cs27 x A4 c4 A5 c5), .int .i64 (d : Int), v] w fun e w' => ∃ v', e = .returned v' ∧ Kd.R kint 3 w' base (fun _ => True) v' (ys ++ deepI (flatD d x)) ∧ Below base w w' ∧ w.grownBy w' v.ownBlock ∧ Moved w.heap.size v v'
  | 0, w, x, _, _, _, _, _, _, _, h, _, _, _, _, _ => by have := szT_pos x; omega
  | q + 1, w, x, A4, c4, A5, c5, d, v, ys, hq, hx, hv, hb, hr, hd => by
    have IH := Aside0.mk (deeps_calls n0 base hn q)
    have HX := Aside0.mk hx
    have HV := Aside0.mk hv
    have HBS := Aside0.mk hb
    have HR := Aside0.mk hr
    have HD := Aside0.mk hd
    have HQ := Aside0.mk hq
    have HN := Aside0.mk hn
    have HWD := Aside0.mk (wrap_next hd)
    have HS1 := Aside0.mk (szT_pos x)
    clear hq hx hv hb hr hn hd
    go_enter Try.func62, Try.ntmps62
    go_wp2_with (first | ((with_reducible refine gate_builtin (b := .append) (xs := #[.tmp 8, .tmp 10]) rfl ?_); at_builtin; go_loud (refine Kd.R_append kint (w0 := w) base rfl (.tmp 8) (.tmp 10) 60 3 (.int .i64 0) 8 rfl Try.underlying60 info3 rfl (by decide) (by omega) v ys (d : Int) [.int .i64 (d : Int)] (fun _ => True) (fun _ => False) rfl (by rw [Mem.alloc_size]; rfl) ?aP (fun _ hk => hk.elim) (fun _ _ => trivial) ?aO ?aB ?aS ?aL ?_); (case aP => exact rfl); (case aO => exact Kd.R_below HV.out (below_alloc (Below.refl _ _) _)); (case aB => exact (Below.refl base w).alloc HBS.out _); (case aS => have := HBS.out; rw [Mem.alloc_size]; omega); (case aL => have := HR.out; have := HS1.out; omega); intro v1 w1 hv1 hb1 hg1 hm1; have HV1 := Aside0.mk hv1; have HB1 := Aside0.mk hb1; have HG1 := Aside0.mk hg1; have HM1 := Aside0.mk hm1; clear hv1 hb1 hg1 hm1))
    have HSU : Aside0 ((w.alloc (.cells (cs27 x A4 c4 A5 c5) 27)).heap.size = w.heap.size + 1) := ⟨Mem.alloc_size _ _⟩
    have HB0 : Aside0 ((w.alloc (.cells (cs27 x A4 c4 A5 c5) 27)).heap[w.heap.size]? = some (.cells (cs27 x A4 c4 A5 c5) 27 (0, 0))) := ⟨Mem.alloc_new _ _⟩
    have HWU : Aside0 (∀ w', (w.alloc (.cells (cs27 x A4 c4 A5 c5) 27)).grownBy w' v.ownBlock → w.grownBy w' v.ownBlock) := ⟨fun _ h => grown_alloc h⟩
    generalize w.alloc (.cells (cs27 x A4 c4 A5 c5) 27) = U at *
    have HNE : Aside0 (some w.heap.size ≠ v.ownBlock) := ⟨fun e => by obtain ⟨_, ho⟩ := Kd.R_own HV.out; have := own_lt ho _ e.symm; omega⟩
    obtain ⟨_, _, hl5, hF5⟩ := HX.out.rows
    have hmax : x.f4.length ≤ 9223372036854775807 := (Kd.F_now hF5).2.1
    have HMX := Aside0.mk hmax
    have HF5 := Aside0.mk hF5
    clear hl5 hF5 hmax
    go_loopw [2, 7] (fun v' i wr => ∃ k : Nat, i = .int .i64 (k : Int) ∧ Aside0 (k ≤ x.f4.length) ∧ Aside0 (Kd.R kint 3 wr base (fun _ => True) v' (ys ++ (d : Int) :: deepI (flatDs (d + 1) (x.f4.take k)))) ∧ Aside0 (Below base w wr) ∧ Aside0 (U.grownBy wr v.ownBlock) ∧ Aside0 (Moved U.heap.size v v')) (fun _ i _ => x.f4.length - (intOf i).toNat)
    case atStart => exact ⟨0, rfl, ⟨Nat.zero_le _⟩, HV1, HB1, HG1, HM1⟩
    case round =>
      clear HV1 HB1 HG1 HM1
      obtain ⟨k, rfl, HK, HVR, HBR, HGR, HMR⟩ := hrel
      have HBX : Aside0 (wr.heap[w.heap.size]? = some (.cells (cs27 x A4 c4 A5 c5) 27 (0, 0))) := ⟨(HGR.out.block _ (by have := HSU.out; omega) HNE.out).trans HB0.out⟩
      have b5 := Mem.cell_of HBX.out 5
      by_cases hlt : k < x.f4.length
      · have HW := Aside0.mk (wrap_in hlt HMX.out)
        have HFR : Kd.F k27 wr (fun k => k < n0) A5 x.f4.length x.f4 := Kd.F_step HF5.out (fun i hi _ => HBR.out.block i (Nat.lt_of_lt_of_le hi HN.out))
        obtain ⟨ad, B4, d4, B5, d5, rfl, hc, hk⟩ := kid_at HFR k hlt
        have HKD := Aside0.mk hk
        have HRK : Aside0 ((ys ++ (d : Int) :: deepI (flatDs (d + 1) (x.f4.take k))).length + szT (x.f4.getD k z27) ≤ 1099511627776) := ⟨by rw [deeps_len]; exact kid_room HR.out hlt⟩
        have HDK := Aside0.mk (kid_deep HD.out hlt)
        have HQK : Aside0 (szT (x.f4.getD k z27) ≤ q) := ⟨by have := szT_kid x.f4 hlt; have := szT_eq x; have := HQ.out; omega⟩
        have HSN : Aside0 ((ys ++ (d : Int) :: deepI (flatDs (d + 1) (x.f4.take k))) ++ deepI (flatD (d + 1) (x.f4.getD k z27)) = ys ++ (d : Int) :: deepI (flatDs (d + 1) (x.f4.take (k + 1)))) := ⟨by rw [flatDs_snoc _ x.f4 hlt, deepI_append, List.append_assoc, List.cons_append]⟩
        have HLT := Aside0.mk hlt
        obtain ⟨x0, x1, x2, x3, x4, x5⟩ := hc
        have e6 : ((k : Int) < (x.f4.length : Int)) = True := eq_true (Int.ofNat_lt.2 hlt)
        have e7 : (k < x.f4.length) = True := eq_true hlt
        have hkn : (k : Int).toNat = k := Int.toNat_natCast k
        have hkp : (0 : Int) ≤ (k : Int) := Int.natCast_nonneg k
        have hwd := HWD.out
        generalize x.f4.getD k z27 = y at *
        obtain ⟨p, hp⟩ : ∃ p, ad.add (k * 6) = p := ⟨_, rfl⟩
        rw [hp] at x0 x1 x2 x3 x4 x5
        clear hk HFR hlt
        go_wp2_with (fail)
        refine (IH.out wr y B4 d4 B5 d5 (d + 1) _ _ HQK.out HKD.out HVR.out (Nat.le_trans HBS.out HBR.out.size) HRK.out HDK.out).mono ?_
        rintro e w3 ⟨v3, rfl, hv3, hb3, hg3, hm3⟩
        rw [HSN.out] at hv3
        dsimp only
        have HV3 := Aside0.mk hv3
        have HB3 := Aside0.mk (HBR.out.trans hb3)
        have HG3 := Aside0.mk (grown_moved HGR.out HMR.out hg3)
        have HM3 := Aside0.mk (HMR.out.trans hm3 HGR.out.size)
        clear hv3 hb3 hg3 hm3 b5 x0 x1 x2 x3 x4 x5 hwd
        go_wp2_with (fail)
        exact ⟨⟨k + 1, by rw [HW.out], ⟨by have := HLT.out; omega⟩, HV3, HB3, HG3, HM3⟩, dec_kid HLT.out HW.out⟩
      · have e6 : ((k : Int) < (x.f4.length : Int)) = False := eq_false (by omega)
        have e7 : (k < x.f4.length) = False := eq_false hlt
        have HTA : Aside0 (x.f4.take k = x.f4) := ⟨List.take_of_length_le (by omega)⟩
        clear hlt
        go_wp2_with (fail)
        go_ret
        rw [HTA.out] at HVR
        exact ⟨_, rfl, by rw [deepI_eq]; exact HVR.out, HBR.out, HWU.out _ HGR.out, HMR.out.low (by have := HSU.out; omega)⟩
theorem empty_I (W : World) (base b : Nat) (hb : b = W.heap.size) (h : base ≤ W.heap.size) : Kd.R kint 3 (W.alloc (.cells #[] 3)) base (fun _ => True) (.slice (some ⟨b, 0, none⟩) 0 0) [] := by
  subst hb
  exact ⟨fun _ _ => trivial, [], World.ownsRow_made W #[] 0 h (Nat.zero_le _) rfl, Reps.none _ _⟩
set_option maxHeartbeats 4000000 in
set_option maxRecDepth 100000 in
theorem deepsall_calls (n0 : Nat) (w : World) (x : S27) (A4 : Option Addr) (c4 : Nat) (A5 : Option Addr) (c5 : Nat) (hx : TK w n0 x (cs27 x A4 c4 A5 c5).toList) (hn : n0 ≤ w.heap.size) (hr : szT x ≤ 1099511627776) :
    Calls Try.prog 30 #[.agg (cs27 x A4 c4 A5 c5)] w fun e w' => ∃ v, e = .returned v ∧ Kd.R kint 3 w' w.heap.size (fun _ => True) v (deepI (flatD 0 x)) ∧ Below w.heap.size w w' := by
  have HX := Aside0.mk hx
  have HN := Aside0.mk hn
  have HR := Aside0.mk hr
  clear hx hn hr
  go_enter Try.func30, Try.ntmps30
  go_wp2_with (fail)
  have HB := Aside0.mk (below_alloc (below_alloc (Below.refl w.heap.size w) (.cells (cs27 x A4 c4 A5 c5) 27)) (.cells #[] 3))
  refine (deeps_calls n0 w.heap.size HN.out (szT x) _ x _ _ _ _ 0 _ [] (Nat.le_refl _) (HX.out.low (fun i hi => HB.out.block i (Nat.lt_of_lt_of_le hi HN.out))) (empty_I _ _ _ (by rw [Mem.alloc_size]) (by rw [Mem.alloc_size]; omega)) HB.out.size (by have := HR.out; simpa using this) (by have := HR.out; omega)).mono ?_
  rintro e w3 ⟨v3, rfl, hv3, hb3, _, _⟩
  dsimp only
  have HV3 := Aside0.mk hv3
  have HB3 := Aside0.mk (HB.out.trans hb3)
  clear hv3 hb3 HB
  go_wp2_with (fail)
  go_ret
  exact ⟨_, rfl, HV3.out, HB3.out⟩
/-- A number of a list. -/
theorem int_at {w : World} {A : Option Addr} {n : Nat} {xs : List Int} (h : Kd.C kint w A n xs) (k : Nat) (hk : k < n) : ∃ ad, A = some ad ∧ w.cell? (ad.add k) = some (.int .i64 (xs.getD k 0)) := by
  obtain ⟨ad, c, e, _, hK, hc0⟩ := Kd.C_get h 0 (k : Int) (Int.natCast_nonneg _) (Int.ofNat_lt.2 hk)
  rw [Int.toNat_natCast] at hK hc0
  have hcs : c = [.int .i64 (xs.getD k 0)] := hK
  subst hcs
  have := hc0 0 _ rfl
  rw [Nat.add_zero, show kint.sz = 1 from rfl, Nat.mul_one] at this
  exact ⟨ad, e, this⟩
theorem deepI_get (l : List (Nat × S27)) {k : Nat} (h : k < l.length) : (deepI l).getD k 0 = ((l.getD k (0, z27)).1 : Int) := by
  unfold deepI
  rw [List.getD_eq_getElem?_getD, List.getD_eq_getElem?_getD, List.getElem?_map, List.getElem?_eq_getElem h]; rfl
mutual
theorem flatD_hi : ∀ (d : Nat) (x : S27), ∀ p ∈ flatD d x, p.1 + 1 ≤ d + szT x
  | d, ⟨k, t, u, a, l⟩, p, hp => by
    rw [flatD] at hp
    rw [szT]
    rcases List.mem_cons.1 hp with rfl | hp
    · simp only []; omega
    · have := flatDs_hi (d + 1) l p hp; omega
theorem flatDs_hi : ∀ (d : Nat) (l : List S27), ∀ p ∈ flatDs d l, p.1 + 1 ≤ d + szTs l
  | _, [], p, hp => by rw [flatDs] at hp; cases hp
  | d, x :: l, p, hp => by
    rw [flatDs] at hp
    rw [szTs]
    rcases List.mem_append.1 hp with hp | hp
    · have := flatD_hi d x p hp; omega
    · have := flatDs_hi d l p hp; omega
end
end Go.Proofs.Ytnkbgimihikhoaa.PVt
namespace Go.Proofs.Ytnkbgimihikhoaa.PVt
open Go.RowKit Go.Proofs.YtnkbgimihikhoaaW.PrintWords Go.Proofs.YtnkbgimihikhoaaW.PrintLast Go.Proofs.YtnkbgimihikhoaaW.PrintMore
attribute [local go_sem high] eqA23
set_option linter.unusedVariables false
set_option linter.unusedSimpArgs false
/-- Going back: the last node one higher. -/
def backP : List (Nat × S27) → Nat → S23 × Bool
  | [], _ => (z23, false)
  | p :: r, d => if p.1 + 1 = d then (p.2.f0, true) else backP r d
theorem flatL_get (x : S27) {k : Nat} (h : k < (flatD 0 x).length) : (flatL x).getD k z27 = ((flatD 0 x).getD k (0, z27)).2 := by
  rw [← flatL_map 0 x, List.getD_eq_getElem?_getD, List.getD_eq_getElem?_getD, List.getElem?_map, List.getElem?_eq_getElem h]; rfl
end Go.Proofs.Ytnkbgimihikhoaa.PVt
namespace Go.Proofs.Ytnkbgimihikhoaa.PVt
open Go.RowKit Go.Shelf Go.Proofs.YtnkbgimihikhoaaW.PrintWords Go.Proofs.YtnkbgimihikhoaaW.PrintLast Go.Proofs.YtnkbgimihikhoaaW.PrintMore
attribute [local go_sem] Oper.semAt_some
attribute [local go_sem high] eqA23
set_option linter.unusedVariables false
set_option linter.unusedSimpArgs false
def stepA (ab : List S23) (p : Nat × S27) : List S23 := ab.take p.1 ++ [p.2.f0]
def AbInv (r : List (Nat × S27)) (ab : List S23) : Prop := ∀ d, 1 ≤ d → d ≤ ab.length → backP r d = (ab.getD (d - 1) z23, true)
theorem AbInv.step {r : List (Nat × S27)} {ab : List S23} {p : Nat × S27} (h : AbInv r ab) (hp : p.1 ≤ ab.length) : AbInv (p :: r) (stepA ab p) ∧ (stepA ab p).length = p.1 + 1 := by
  have hl : (stepA ab p).length = p.1 + 1 := by unfold stepA; rw [List.length_append, List.length_take, List.length_singleton]; omega
  refine ⟨fun d h1 h2 => ?_, hl⟩
  rw [hl] at h2
  unfold backP
  by_cases hd : p.1 + 1 = d
  · rw [if_pos hd]
    subst hd
    unfold stepA
    rw [List.getD_eq_getElem?_getD, List.getElem?_append_right (by rw [List.length_take]; omega), List.length_take, show p.1 + 1 - 1 - min p.1 ab.length = 0 from by omega]
    rfl
  · rw [if_neg hd, h d h1 (by omega)]
    unfold stepA
    rw [List.getD_eq_getElem?_getD, List.getD_eq_getElem?_getD, List.getElem?_append_left (by rw [List.length_take]; omega), List.getElem?_take_of_lt (by omega)]
end Go.Proofs.Ytnkbgimihikhoaa.PVt
namespace Go.Proofs.Ytnkbgimihikhoaa.PVt
open Go.RowKit Go.Proofs.YtnkbgimihikhoaaW.PrintWords Go.Proofs.YtnkbgimihikhoaaW.PrintLast Go.Proofs.YtnkbgimihikhoaaW.PrintMore
attribute [local go_sem] max2_int min2_int max_two min_two max_three min_three max_four min_four   -- for this text's walks alone
set_option linter.unusedVariables false
set_option linter.unusedSimpArgs false
attribute [local go_sem high] eqA23
def topiaryref01_Same.l0 : Nat → List (S23) → List (S23) → Int → Option (Bool)
  | 0, _, _, _ => none
  | k + 1, x0, x1, x5 => if x5 < (x0.length : Int) then (if 0 ≤ x5 then (if x5 < (x1.length : Int) then (if (!(((rd_T23 x0 x5).f0) == ((rd_T23 x1 x5).f0)) || (!(((rd_T23 x0 x5).f1) == ((rd_T23 x1 x5).f1)))) = true then (some false) else (topiaryref01_Same.l0 k x0 x1 (wrap64 (x5 + 1)))) else (none)) else (none)) else (some true)
def topiaryref01_Same.f (k : Nat) (l0 : List (S23)) (l1 : List (S23)) : Option (Bool) := if (l0.length : Int) = (l1.length : Int) then (topiaryref01_Same.l0 k l0 l1 0) else (some false)
theorem topiaryref01_Same.mono_l : ∀ k, (∀ y0 y1 y2, LeO (topiaryref01_Same.l0 k y0 y1 y2) (topiaryref01_Same.l0 (k + 1) y0 y1 y2))
  | 0 => fun _ _ _ r h => by simp [topiaryref01_Same.l0] at h
  | k + 1 => by
    have ih0 := topiaryref01_Same.mono_l k
    · intro y0 y1 y2
      unfold topiaryref01_Same.l0
      repeat' first
      | (with_reducible exact ih0 _ _ _)
      | (with_reducible exact LeO.refl _)
      | (with_reducible exact LeO.none _)
      | (with_reducible refine LeO.ite ?_ ?_)
      | (with_reducible refine LeO.bind ?_ (fun _ => ?_))
      | exact ih0 _ _ _
      | exact LeO.none _
      | refine LeO.ite ?_ ?_
      | refine LeO.bind ?_ (fun _ => ?_)
theorem topiaryref01_Same.mono : ∀ a0 a1 k, LeO (topiaryref01_Same.f k a0 a1) (topiaryref01_Same.f (k + 1) a0 a1) := by
  intro a0 a1 k
  have ih0 := topiaryref01_Same.mono_l k
  unfold topiaryref01_Same.f
  repeat' first
      | (with_reducible exact ih0 _ _ _)
      | (with_reducible exact LeO.refl _)
      | (with_reducible exact LeO.none _)
      | (with_reducible refine LeO.ite ?_ ?_)
      | (with_reducible refine LeO.bind ?_ (fun _ => ?_))
      | exact ih0 _ _ _
      | exact LeO.none _
      | refine LeO.ite ?_ ?_
      | refine LeO.bind ?_ (fun _ => ?_)
end Go.Proofs.Ytnkbgimihikhoaa.PVt
namespace Go.Proofs.Ytnkbgimihikhoaa.PVt
open Go.RowKit Go.Proofs.YtnkbgimihikhoaaW.PrintWords Go.Proofs.YtnkbgimihikhoaaW.PrintLast Go.Proofs.YtnkbgimihikhoaaW.PrintMore
set_option linter.unusedVariables false
set_option linter.unusedSimpArgs false
set_option maxHeartbeats 4000000 in
set_option maxRecDepth 100000 in
theorem many_calls (n0 : Nat) (w : World) (x : S27) (A4 : Option Addr) (c4 : Nat) (A5 : Option Addr) (c5 : Nat) (hx : TK w n0 x (cs27 x A4 c4 A5 c5).toList) (hn : n0 ≤ w.heap.size) (hr : Room 0 (szT x)) :
    Calls Try.prog 27 #[.agg (cs27 x A4 c4 A5 c5)] w fun e w' => e = .returned (.bool (decide (1500 < szT x))) ∧ Below w.heap.size w w' := by
  have hB := below_alloc (Below.refl w.heap.size w) (.cells (cs27 x A4 c4 A5 c5) 27)
  have HB := Aside0.mk hB
  have HX := Aside0.mk (hx.low (fun i hi => hB.block i (Nat.lt_of_lt_of_le hi hn)))
  have HN : Aside0 (n0 ≤ (w.alloc (.cells (cs27 x A4 c4 A5 c5) 27)).heap.size) := ⟨by rw [Mem.alloc_size]; omega⟩
  have HR := Aside0.mk hr
  clear hx hn hr hB
  go_enter Try.func27, Try.ntmps27
  go_wp2_with (fail)
  refine (flatten_calls n0 _ x _ _ _ _ HX.out HN.out HR.out).mono ?_
  rintro e w2 ⟨v, rfl, hv, hb2⟩
  obtain ⟨A, c, rfl⟩ := Kd.N_slice hv
  have HB2 := Aside0.mk (HB.out.trans (hb2.mono HB.out.size))
  have HL := Aside0.mk (flatL_length x)
  dsimp only
  clear hv hb2 HB HX HN
  generalize flatL x = L at *
  have HD : Aside0 (decide ((1500 : Int) < (L.length : Int)) = decide (1500 < szT x)) := ⟨by rw [← HL.out]; exact decide_eq_decide.2 (by omega)⟩
  go_wp2
  go_ret
  exact ⟨by rw [← HD.out]; rfl, HB2.out⟩
end Go.Proofs.Ytnkbgimihikhoaa.PVt
namespace Go.Proofs.Ytnkbgimihikhoaa.PVt
open Go.RowKit Go.Proofs.YtnkbgimihikhoaaW.PrintWords Go.Proofs.YtnkbgimihikhoaaW.PrintLast Go.Proofs.YtnkbgimihikhoaaW.PrintMore
set_option linter.unusedVariables false
set_option linter.unusedSimpArgs false
def vas.B4 : List Nat := [0, 1, 0, 7, 15, 31, 63, 127, 255, 127, 1023, 2047, 4095, 8191, 16383, 32767, 16383, 131071, 262143, 524287, 1048575]
end Go.Proofs.Ytnkbgimihikhoaa.PVt
namespace Go.Proofs.Ytnkbgimihikhoaa.PVt
open Go.RowKit Go.Shelf Go.Proofs.YtnkbgimihikhoaaW.PrintWords Go.Proofs.YtnkbgimihikhoaaW.PrintLast Go.Proofs.YtnkbgimihikhoaaW.PrintMore
attribute [local go_sem] Oper.semAt_some
set_option linter.unusedVariables false
set_option linter.unusedSimpArgs false
def vg15.T15 : Bool × List (List Nat × List Nat) := (true, [([], []), ([], []), ([1], [1]), ([0, 2], [0, 2]), ([3], [3]), ([4], [4]), ([4], [4]), ([4], [4]), ([6, 7, 4], [4, 6, 7]), ([8, 4], [4, 8]), ([5, 9, 4], [4, 5, 9]), ([4, 10], [4, 10]), ([11, 4], [11]), ([12], [12]), ([12], [12]), ([12], [12]), ([14, 15, 12], [12, 14, 15]), ([16, 12], [12, 16]), ([13, 17, 12, 12], [12, 13, 17]), ([18, 12], [12, 18]), ([12, 19], [12, 19])])
def vg15.B15 : List Nat := [0, 0, 2, 7, 15, 31, 31, 31, 223, 479, 1023, 2047, 4095, 8191, 8191, 8191, 57343, 122879, 262143, 524287, 1048575]
theorem vg15.tab15 : rtab .any (opsOf Try.f7 15) = vg15.T15 := by kernel_rfl
theorem vg15.bits15 : waitsOk vg15.T15.2 vg15.B15 = true := by kernel_rfl
def vg23.T23 : Bool × List (List Nat × List Nat) := (true, [([], []), ([], []), ([1], [1]), ([0, 2], [0, 2]), ([3], [3]), ([4], [4]), ([4], [4]), ([4], [4]), ([6, 7, 4], [4, 6, 7]), ([8, 4], [4, 8]), ([5, 9, 4], [4, 5, 9]), ([4, 10], [4, 10]), ([11, 4], [11]), ([12], [12]), ([12], [12]), ([12], [12]), ([14, 15, 12], [12, 14, 15]), ([16, 12], [12, 16]), ([13, 17, 12, 12], [12, 13, 17]), ([18, 12], [12, 18]), ([12, 19], [12, 19])])
def vg23.B23 : List Nat := [0, 0, 2, 7, 15, 31, 31, 31, 223, 479, 1023, 2047, 4095, 8191, 8191, 8191, 57343, 122879, 262143, 524287, 1048575]
theorem vg23.tab23 : rtab .any (opsOf Try.f7 23) = vg23.T23 := by kernel_rfl
theorem vg23.bits23 : waitsOk vg23.T23.2 vg23.B23 = true := by kernel_rfl
theorem results_cb {P : Program} {fn : Func} {p : Tmp} {ty : TypeId} (h : fn.results = #[.cell p ty]) (tmps : Array Value) (w : World) (g : Nat) (v : Bool) (hp : tmps.getD p undef = .pointer (some ⟨g, 0, none⟩)) (hc : w.cell? ⟨g, 0, none⟩ = some (.bool v)) (hu : P.underlying ty = some .bool) : (results fn tmps).run P w = .ok (.bool v) w := by
  have hp' : tmps[p]?.getD undef = .pointer (some ⟨g, 0, none⟩) := by simpa using hp
  simp [results, h, hp', asAddr, loadVar, isAgg, underlying, hu, hc, load, Sem.run]
theorem eqin57 (W : World) (d : Nat) (f : Fn) (a b : Array Value) : (Op.equalIn (d + 1) 57 (.func f a b) .nilFunc).run Try.prog W = .ok false W := by
  simp [Op.equalIn, run_underlying Try.underlying57]
theorem eql57 (W : World) (f : Fn) (a b : Array Value) : Sem.run Try.prog (binOp .eql 57 (.func f a b) .nilFunc) W = .ok (.bool false) W := by
  simp only [binOp]
  simp [Op.equal, Op.maxDepth, eqin57 W 9999]
attribute [local go_sem] eql57
theorem pre_at {M a : List (Nat × S27)} {p : Nat × S27} (h : a ++ [p] <+: M) : a.length < M.length ∧ M.getD a.length (0, z27) = p := by
  obtain ⟨t, rfl⟩ := h
  refine ⟨by simp, ?_⟩
  rw [List.append_assoc, List.getD_eq_getElem?_getD, List.getElem?_append_right (Nat.le_refl _), Nat.sub_self]
  rfl
theorem C_int_low {n : Nat} {W U3 : World} {A : Option Addr} {xs : List Int} (h : Kd.C kint U3 A n xs) (hl : ∀ i, i < U3.heap.size → W.heap[i]? = U3.heap[i]?) : Kd.C kint W A n xs :=
  Kd.F_now (Kd.F_step (Kd.C_F (Kd.heap_int _) h) (fun i hi _ => hl i hi))
theorem wrap_lenI {k n : Nat} (h : k < n) (hn : n ≤ 1099511627776) : wrap64 ((k : Int) + 1) = (k : Int) + 1 := by unfold wrap64; omega
set_option maxHeartbeats 16000000 in
set_option maxRecDepth 100000 in
theorem goes_calls (w : World) (x : S27) (stop : Int) (A4 : Option Addr) (c4 : Nat) (A5 : Option Addr) (c5 : Nat) (hx : RK w x A4 c4 A5 c5) (hf : fitT x) (hs : szT x ≤ 1048576) :
    Calls Try.prog 7 #[.agg #[.int .i64 x.f0.f0, .int .i64 x.f0.f1, .string x.f1, .string x.f2, .slice A4 x.f3.length c4, .slice A5 x.f4.length c5], .int .i64 stop] w fun e w' => e = .returned (.bool true) ∧ Below w.heap.size w w' := by
  have hB := below_alloc (below_alloc (below_alloc (Below.refl w.heap.size w) (.cells #[.int .i64 x.f0.f0, .int .i64 x.f0.f1, .string x.f1, .string x.f2, .slice A4 x.f3.length c4, .slice A5 x.f4.length c5] 27)) (.cells #[.int .i64 stop] 3)) (.cells #[.bool false] 4)
  have HRX0 := Aside0.mk (hx.below hB)
  have HX0 : Aside0 ((((w.alloc (.cells #[.int .i64 x.f0.f0, .int .i64 x.f0.f1, .string x.f1, .string x.f2, .slice A4 x.f3.length c4, .slice A5 x.f4.length c5] 27)).alloc (.cells #[.int .i64 stop] 3)).alloc (.cells #[.bool false] 4)).heap[w.heap.size]? = some (.cells #[.int .i64 x.f0.f0, .int .i64 x.f0.f1, .string x.f1, .string x.f2, .slice A4 x.f3.length c4, .slice A5 x.f4.length c5] 27 (0, 0))) := ⟨Mem.alloc_old (Mem.alloc_old (Mem.alloc_new _ _) _) _⟩
  have HS0 : Aside0 ((((w.alloc (.cells #[.int .i64 x.f0.f0, .int .i64 x.f0.f1, .string x.f1, .string x.f2, .slice A4 x.f3.length c4, .slice A5 x.f4.length c5] 27)).alloc (.cells #[.int .i64 stop] 3)).alloc (.cells #[.bool false] 4)).heap[w.heap.size + 1]? = some (.cells #[.int .i64 stop] 3 (0, 0))) := ⟨Mem.alloc_old (Mem.alloc_new_at _ _ _ (by rw [Mem.alloc_size])) _⟩
  have HR0 : Aside0 ((((w.alloc (.cells #[.int .i64 x.f0.f0, .int .i64 x.f0.f1, .string x.f1, .string x.f2, .slice A4 x.f3.length c4, .slice A5 x.f4.length c5] 27)).alloc (.cells #[.int .i64 stop] 3)).alloc (.cells #[.bool false] 4)).heap[w.heap.size + 2]? = some (.cells #[.bool false] 4 (0, 0))) := ⟨Mem.alloc_new_at _ _ _ (by rw [Mem.alloc_size, Mem.alloc_size])⟩
  have HB0 := Aside0.mk hB
  have HF := Aside0.mk hf
  have HSZ : Aside0 (szT x ≤ 1099511627776) := ⟨by omega⟩
  have HRM : Aside0 (Room 0 (szT x)) := ⟨by unfold Room; omega⟩
  clear hx hB hf hs
  refine (callsIn_wide (n := 3)).1 ?_
  refine callsIn_of_wp_marks Try.func7 rfl trivial ?_ rfl
  simp only [Try.ntmps7, List.size_toArray, List.length_cons, List.length_nil, Nat.reduceAdd, Nat.reduceSub, Array.replicate_succ, Array.replicate_zero, List.push_toArray, List.append_toArray, List.nil_append, List.cons_append]
  refine wpIn_wide.2 ?_
  go_wp2_with (fail)
  generalize (((w.alloc (.cells #[.int .i64 x.f0.f0, .int .i64 x.f0.f1, .string x.f1, .string x.f2, .slice A4 x.f3.length c4, .slice A5 x.f4.length c5] 27)).alloc (.cells #[.int .i64 stop] 3)).alloc (.cells #[.bool false] 4)) = U0 at *
  refine (many_calls _ _ x _ _ _ _ (TK.of HRX0.out.K) (Nat.le_refl _) HRM.out).mono ?_
  rintro e w1 ⟨rfl, hb1⟩
  have HB1 := Aside0.mk (HB0.out.trans (hb1.mono HB0.out.size))
  have HRX1 := Aside0.mk (HRX0.out.below hb1)
  have HX1 := Aside0.mk ((hb1.block _ (blk_lt HX0.out)).trans HX0.out)
  have HS1 := Aside0.mk ((hb1.block _ (blk_lt HS0.out)).trans HS0.out)
  have HR1 := Aside0.mk ((hb1.block _ (blk_lt HR0.out)).trans HR0.out)
  clear hb1
  cases hm : decide (1500 < szT x) with
  | true =>
    go_wp2_with (fail)
    refine (awake_calls _).mono ?_
    rintro e w2 ⟨rfl, hb2⟩
    dsimp only
    have HB2 := Aside0.mk (HB1.out.trans (hb2.mono HB1.out.size))
    have HR2 := Aside0.mk ((hb2.block _ (blk_lt HR1.out)).trans HR1.out)
    clear hb2
    have r0 := Mem.cell_of HR2.out 0
    have r1 := Mem.free_of HR2.out 0
    go_wp2_with (fail)
    refine ⟨_, results_cb rfl _ _ (w.heap.size + 2) true rfl (Mem.cell_of (Mem.set_heap HR2.out 0 (.bool true)) 0) Try.underlying4, rfl, HB2.out.trans (low_set (by omega) _)⟩
  | false =>
    clear hm
    have a0 := Mem.cell_of HX1.out 0
    have a1 := Mem.cell_of HX1.out 1
    have a2 := Mem.cell_of HX1.out 2
    have a3 := Mem.cell_of HX1.out 3
    have a4 := Mem.cell_of HX1.out 4
    have a5 := Mem.cell_of HX1.out 5
    go_wp2_with (fail)
    refine (rcopyM_calls _ x _ _ _ _ HRX1.out HF.out).mono ?_
    rintro e w2 ⟨B4, d4, B5, d5, rfl, hM2, hb2⟩
    dsimp only
    have HM2 := Aside0.mk hM2
    have hba := below_alloc hb2 (.cells #[.int .i64 x.f0.f0, .int .i64 x.f0.f1, .string x.f1, .string x.f2, .slice B4 x.f3.length d4, .slice B5 x.f4.length d5] 27)
    have HB12 := Aside0.mk hb2
    have HBA := Aside0.mk hba
    have HK2 : Aside0 (∀ k, k < w2.heap.size → (w2.alloc (.cells #[.int .i64 x.f0.f0, .int .i64 x.f0.f1, .string x.f1, .string x.f2, .slice B4 x.f3.length d4, .slice B5 x.f4.length d5] 27)).heap[k]? = w2.heap[k]?) := ⟨fun k hk => (below_alloc (Below.refl w2.heap.size w2) _).block k hk⟩
    have HO : Aside0 ((w2.alloc (.cells #[.int .i64 x.f0.f0, .int .i64 x.f0.f1, .string x.f1, .string x.f2, .slice B4 x.f3.length d4, .slice B5 x.f4.length d5] 27)).heap[w2.heap.size]? = some (.cells #[.int .i64 x.f0.f0, .int .i64 x.f0.f1, .string x.f1, .string x.f2, .slice B4 x.f3.length d4, .slice B5 x.f4.length d5] 27 (0, 0))) := ⟨Mem.alloc_new _ _⟩
    have HSU : Aside0 ((w2.alloc (.cells #[.int .i64 x.f0.f0, .int .i64 x.f0.f1, .string x.f1, .string x.f2, .slice B4 x.f3.length d4, .slice B5 x.f4.length d5] 27)).heap.size = w2.heap.size + 1) := ⟨Mem.alloc_size _ _⟩
    have HRO : Aside0 (RK (w2.alloc (.cells #[.int .i64 x.f0.f0, .int .i64 x.f0.f1, .string x.f1, .string x.f2, .slice B4 x.f3.length d4, .slice B5 x.f4.length d5] 27)) x B4 d4 B5 d5) := ⟨(RK.of (k27.K_of_M hM2)).below (below_alloc (Below.refl _ _) _)⟩
    have HX2 := Aside0.mk ((hba.block _ (blk_lt HX1.out)).trans HX1.out)
    have HS2 := Aside0.mk ((hba.block _ (blk_lt HS1.out)).trans HS1.out)
    have HR2 := Aside0.mk ((hba.block _ (blk_lt HR1.out)).trans HR1.out)
    clear hM2 hb2 hba
    clear a0 a1 a2 a3 a4 a5
    have o0 := Mem.cell_of HO.out 0
    have o1 := Mem.cell_of HO.out 1
    have o2 := Mem.cell_of HO.out 2
    have o3 := Mem.cell_of HO.out 3
    have o4 := Mem.cell_of HO.out 4
    have o5 := Mem.cell_of HO.out 5
    go_wp2_with (fail)
    generalize (w2.alloc (.cells #[.int .i64 x.f0.f0, .int .i64 x.f0.f1, .string x.f1, .string x.f2, .slice B4 x.f3.length d4, .slice B5 x.f4.length d5] 27)) = U1 at *
    refine (each_calls _ x _ _ _ _ HRO.out HF.out).mono ?_
    rintro e w3 ⟨be, C4, g4, C5, g5, rfl, hE3, hbe, hM3, hb3⟩
    dsimp only
    have HE3 := Aside0.mk hE3
    have HBE := Aside0.mk hbe
    have HM3 := Aside0.mk hM3
    have HB3 := Aside0.mk hb3
    have HO3 := Aside0.mk ((hb3.block _ (blk_lt HO.out)).trans HO.out)
    have HX3 := Aside0.mk ((hb3.block _ (blk_lt HX2.out)).trans HX2.out)
    have HS3 := Aside0.mk ((hb3.block _ (blk_lt HS2.out)).trans HS2.out)
    have HR3 := Aside0.mk ((hb3.block _ (blk_lt HR2.out)).trans HR2.out)
    have HK3 : Aside0 (∀ k, k < w2.heap.size → w3.heap[k]? = w2.heap[k]?) := ⟨fun k hk => (hb3.block k (by have := HSU.out; omega)).trans (HK2.out k hk)⟩
    have HZ3 : Aside0 (w1.heap.size ≤ w2.heap.size ∧ w2.heap.size < w3.heap.size) := ⟨HB12.out.size, by have := HSU.out; have := hb3.size; omega⟩
    clear hE3 hbe hM3 hb3
    clear o0 o1 o2 o3 o4 o5
    have o0 := Mem.cell_of HO3.out 0
    have o1 := Mem.cell_of HO3.out 1
    have o2 := Mem.cell_of HO3.out 2
    have o3 := Mem.cell_of HO3.out 3
    have o4 := Mem.cell_of HO3.out 4
    have o5 := Mem.cell_of HO3.out 5
    go_wp2_with (fail)
    have hsp : Sp w1.heap.size w2.heap.size w3 (szT x) #[.int .i64 x.f0.f0, .int .i64 x.f0.f1, .string x.f1, .string x.f2, .slice B4 x.f3.length d4, .slice B5 x.f4.length d5].toList := Sp.step (fun k _ hk => HK3.out k hk) _ _ (Sp.made _ _ x _ (Nat.le_refl _) HM2.out)
    refine (spoil_calls w1.heap.size w2.heap.size _ w3 _ hsp HZ3.out.1 (Nat.le_of_lt HZ3.out.2)).mono ?_
    rintro e w4 ⟨⟨v4, rfl⟩, hw4⟩
    dsimp only
    have HB4 : Aside0 (Below w1.heap.size w1 w4) := ⟨(HBA.out.trans (HB3.out.mono HBA.out.size)).trans hw4.low⟩
    have HX4 := Aside0.mk ((HB4.out.block _ (blk_lt HX1.out)).trans HX1.out)
    have HS4 := Aside0.mk ((HB4.out.block _ (blk_lt HS1.out)).trans HS1.out)
    have HR4 := Aside0.mk ((HB4.out.block _ (blk_lt HR1.out)).trans HR1.out)
    have HRX4 := Aside0.mk (HRX1.out.below HB4.out)
    have hhi : ∀ k, w2.heap.size ≤ k → k < w3.heap.size → w4.heap[k]? = w3.heap[k]? := hw4.high
    have HE4 := Aside0.mk ((hhi _ (by have := HBE.out; have := HSU.out; omega) (blk_lt HE3.out)).trans HE3.out)
    have HRE4 : Aside0 (RK w4 x C4 g4 C5 g5) := ⟨RK.of (k27.K_of_M (k27.M_move (fun k hk => hhi k (by have := hk.2.1; have := HSU.out; omega) hk.2.2.1) (k27.M_bound HM3.out)))⟩
    clear hsp hw4 hhi
    clear o0 o1 o2 o3 o4 o5
    have a0 := Mem.cell_of HX4.out 0
    have a1 := Mem.cell_of HX4.out 1
    have a2 := Mem.cell_of HX4.out 2
    have a3 := Mem.cell_of HX4.out 3
    have a4 := Mem.cell_of HX4.out 4
    have a5 := Mem.cell_of HX4.out 5
    go_wp2_with (fail)
    refine (flatten_calls _ _ x _ _ _ _ (TK.of HRX4.out.K) (Nat.le_refl _) HRM.out).mono ?_
    rintro e w5 ⟨vl, rfl, hvl, hb5⟩
    obtain ⟨Al, cl_, rfl⟩ := Kd.N_slice hvl
    rw [flatL_length] at hvl ⊢
    dsimp only
    have HCL5 := Aside0.mk (Kd.N_F hvl)
    have hba := below_alloc hb5 (.cells #[.slice Al (szT x) cl_] 25)
    have HBA5 := Aside0.mk hba
    have HW45 : Aside0 (w4.heap.size ≤ w5.heap.size) := ⟨hb5.size⟩
    have HL5 : Aside0 ((w5.alloc (.cells #[.slice Al (szT x) cl_] 25)).heap[w5.heap.size]? = some (.cells #[.slice Al (szT x) cl_] 25 (0, 0))) := ⟨Mem.alloc_new _ _⟩
    have HCL := Aside0.mk (Kd.C_below (Kd.F_now HCL5.out) (below_alloc (Below.refl w5.heap.size w5) (.cells #[.slice Al (szT x) cl_] 25)))
    have HX5 := Aside0.mk ((hba.block _ (blk_lt HX4.out)).trans HX4.out)
    have HS5 := Aside0.mk ((hba.block _ (blk_lt HS4.out)).trans HS4.out)
    have HR5 := Aside0.mk ((hba.block _ (blk_lt HR4.out)).trans HR4.out)
    have HE5 := Aside0.mk ((hba.block _ (blk_lt HE4.out)).trans HE4.out)
    have HRX5 := Aside0.mk (HRX4.out.below hba)
    have HRE5 := Aside0.mk (HRE4.out.below hba)
    clear hvl hb5 hba
    clear a0 a1 a2 a3 a4 a5
    have a0 := Mem.cell_of HX5.out 0
    have a1 := Mem.cell_of HX5.out 1
    have a2 := Mem.cell_of HX5.out 2
    have a3 := Mem.cell_of HX5.out 3
    have a4 := Mem.cell_of HX5.out 4
    have a5 := Mem.cell_of HX5.out 5
    go_wp2_with (fail)
    generalize (w5.alloc (.cells #[.slice Al (szT x) cl_] 25)) = U2 at *
    refine (deepsall_calls _ _ x _ _ _ _ (TK.of HRX5.out.K) (Nat.le_refl _) HSZ.out).mono ?_
    rintro e w6 ⟨vd, rfl, hvd, hb6⟩
    obtain ⟨Ad, cd, rfl, hld, hCd⟩ := Kd.R_reads hvd
    rw [deepI_len] at hCd ⊢
    dsimp only
    have hba := below_alloc hb6 (.cells #[.slice Ad (szT x) cd] 60)
    have HBA6 := Aside0.mk hba
    have HD6 : Aside0 ((w6.alloc (.cells #[.slice Ad (szT x) cd] 60)).heap[w6.heap.size]? = some (.cells #[.slice Ad (szT x) cd] 60 (0, 0))) := ⟨Mem.alloc_new _ _⟩
    have HCD := Aside0.mk (Kd.C_below hCd (below_alloc (Below.refl w6.heap.size w6) (.cells #[.slice Ad (szT x) cd] 60)))
    have HX6 := Aside0.mk ((hba.block _ (blk_lt HX5.out)).trans HX5.out)
    have HS6 := Aside0.mk ((hba.block _ (blk_lt HS5.out)).trans HS5.out)
    have HR6 := Aside0.mk ((hba.block _ (blk_lt HR5.out)).trans HR5.out)
    have HE6 := Aside0.mk ((hba.block _ (blk_lt HE5.out)).trans HE5.out)
    have HL6 := Aside0.mk ((hba.block _ (blk_lt HL5.out)).trans HL5.out)
    have HRX6 := Aside0.mk (HRX5.out.below hba)
    have HRE6 := Aside0.mk (HRE5.out.below hba)
    have HCL6 := Aside0.mk (Kd.C_below HCL.out hba)
    have blk_lt6 : Aside0 (w5.heap.size < w6.heap.size) := ⟨Nat.lt_of_lt_of_le (blk_lt HL5.out) hb6.size⟩
    clear hvd hb6 hba hld hCd HCL5
    clear a0 a1 a2 a3 a4 a5
    go_wp2_with (fail)
    have HSU3 : Aside0 ((w6.alloc (.cells #[.slice Ad (szT x) cd] 60)).heap.size = w6.heap.size + 1) := ⟨Mem.alloc_size _ _⟩
    have HW56 : Aside0 (w5.heap.size < w6.heap.size) := ⟨blk_lt6.out⟩
    generalize (w6.alloc (.cells #[.slice Ad (szT x) cd] 60)) = U3 at *
    go_wp2_with (fail)
    have hUB : Below U3.heap.size U3 (U3.alloc (.cells #[.int .i64 0] 3)) := below_alloc (Below.refl _ _) _
    have hU9 : (U3.alloc (.cells #[.int .i64 0] 3)).heap[w6.heap.size + 1]? = some (.cells #[.int .i64 0] 3 (0, 0)) := Mem.alloc_new_at _ _ _ HSU3.out.symm
    have hUS : (U3.alloc (.cells #[.int .i64 0] 3)).heap.size = U3.heap.size + 1 := Mem.alloc_size _ _
    rename_i K0 hK0
    generalize (U3.alloc (.cells #[.int .i64 0] 3)) = U at *
    have HUS := Aside0.mk hUS
    clear hUS
    have HBW : Aside0 (Below w.heap.size w U3) := ⟨(HB1.out.trans (HB4.out.mono HB1.out.size)).trans ((HBA5.out.trans (HBA6.out.mono HBA5.out.size)).mono (HB1.out.trans (HB4.out.mono HB1.out.size)).size)⟩
    have hBU : Below w.heap.size w U := HBW.out.trans (hUB.mono HBW.out.size)
    have HBLK : Aside0 (w.heap.size + 3 ≤ w1.heap.size ∧ w1.heap.size ≤ w5.heap.size ∧ w5.heap.size < w6.heap.size ∧ be < U3.heap.size ∧ U3.heap.size = w6.heap.size + 1) := ⟨by have h1 := HZ3.out; have h2 := blk_lt HE6.out; have h3 := HSU3.out; have h5 := blk_lt HR1.out; have h6 := HB4.out.size; have h7 := HW45.out; have h8 := HW56.out; omega⟩
    have HXU := Aside0.mk ((hUB.block _ (blk_lt HX6.out)).trans HX6.out)
    have HSTU := Aside0.mk ((hUB.block _ (blk_lt HS6.out)).trans HS6.out)
    have HRU := Aside0.mk ((hUB.block _ (blk_lt HR6.out)).trans HR6.out)
    have HEU := Aside0.mk ((hUB.block _ (blk_lt HE6.out)).trans HE6.out)
    have HLU := Aside0.mk ((hUB.block _ (blk_lt HL6.out)).trans HL6.out)
    have HDU := Aside0.mk ((hUB.block _ (blk_lt HD6.out)).trans HD6.out)
    have HTE := Aside0.mk (TK.of HRE6.out.K)
    have HCLF : Aside0 (Kd.F k27 U3 (fun k => k < U3.heap.size) Al (szT x) (flatL x)) := ⟨Kd.C_F heap27 HCL6.out⟩
    have HUB := Aside0.mk hUB
    have HDEEP : Aside0 (∀ p ∈ flatD 0 x, p.1 + 1 ≤ 1099511627776) := ⟨fun p hp => by have := flatD_hi 0 x p hp; have := HSZ.out; omega⟩
    have HML : Aside0 ((flatD 0 x).length = szT x) := ⟨flatD_length 0 x⟩
    have TAIL : ∀ (D i : Nat) (Wd : World), U.heap.size ≤ D → Aside0 (Wd.heap[w6.heap.size + 1]? = some (.cells #[.int .i64 (i : Int)] 3 (0, 0))) → Aside0 (i = szT x ∨ (i : Int) = stop) → Aside0 (LK (fun i => i = w6.heap.size + 1) w.heap.size w U Wd) → Aside0 (Wd.heap[D]? = some (.deferred (some []))) → K0 { tmps := #[.agg #[.int .i64 x.f0.f0, .int .i64 x.f0.f1, .string x.f1, .string x.f2, .slice A4 x.f3.length c4, .slice A5 x.f4.length c5], .int .i64 stop, .pointer (some ⟨w.heap.size, 0, none⟩), .pointer (some ⟨w.heap.size + 1, 0, none⟩), .pointer (some ⟨w.heap.size + 1 + 1, 0, none⟩), .pointer (some ⟨w2.heap.size, 0, none⟩), .func (.func 58) #[] #[.pointer (some ⟨be, 0, none⟩)], .pointer (some ⟨w5.heap.size, 0, none⟩), .pointer (some ⟨w6.heap.size, 0, none⟩), .pointer (some ⟨w6.heap.size + 1, 0, none⟩), undef, undef, undef, undef, undef, .agg #[.int .i64 x.f0.f0, .int .i64 x.f0.f1, .string x.f1, .string x.f2, .slice A4 x.f3.length c4, .slice A5 x.f4.length c5], .bool false, undef, .agg #[.int .i64 x.f0.f0, .int .i64 x.f0.f1, .string x.f1, .string x.f2, .slice A4 x.f3.length c4, .slice A5 x.f4.length c5], .agg (cs27 x B4 d4 B5 d5), .agg #[.int .i64 x.f0.f0, .int .i64 x.f0.f1, .string x.f1, .string x.f2, .slice B4 x.f3.length d4, .slice B5 x.f4.length d5], .func (.func 58) #[] #[.pointer (some ⟨be, 0, none⟩)], .func (.func 58) #[] #[.pointer (some ⟨be, 0, none⟩)], .bool false, .agg #[.int .i64 x.f0.f0, .int .i64 x.f0.f1, .string x.f1, .string x.f2, .slice B4 x.f3.length d4, .slice B5 x.f4.length d5], v4, .agg #[.int .i64 x.f0.f0, .int .i64 x.f0.f1, .string x.f1, .string x.f2, .slice A4 x.f3.length c4, .slice A5 x.f4.length c5], .slice Al (szT x) cl_, .agg #[.int .i64 x.f0.f0, .int .i64 x.f0.f1, .string x.f1, .string x.f2, .slice A4 x.f3.length c4, .slice A5 x.f4.length c5], .slice Ad (szT x) cd, .func (.func 58) #[] #[.pointer (some ⟨be, 0, none⟩)], undef, undef, undef, undef, undef, undef, undef, undef, undef, undef, undef, undef, undef, undef, undef, undef, undef, undef, undef, undef, undef, undef, undef, undef, undef, undef, undef, undef, undef, undef, undef, undef, undef, undef, undef, undef, undef, undef, undef, undef, undef, undef, undef, undef, undef, undef, undef, undef, undef, undef, undef, undef, undef, undef, undef, undef, undef, undef, undef, undef, undef, undef, undef, undef, undef, undef, undef, undef, undef, undef, undef, undef, undef, undef], defers := [{ target := .collected D, args := #[] }] } Wd := by
      intro D i Wd hD HC HI HKD HD1
      refine hK0 _ _ ?_
      go_wp2_with (fail)
      have hVB : Below Wd.heap.size Wd (Wd.alloc (.cells #[.int .i64 0] 3)) := below_alloc (Below.refl _ _) _
      have hV12 : (Wd.alloc (.cells #[.int .i64 0] 3)).heap[Wd.heap.size]? = some (.cells #[.int .i64 0] 3 (0, 0)) := Mem.alloc_new _ _
      have HVS : Aside0 ((Wd.alloc (.cells #[.int .i64 0] 3)).heap.size = Wd.heap.size + 1) := ⟨Mem.alloc_size _ _⟩
      generalize (Wd.alloc (.cells #[.int .i64 0] 3)) = V at *
      have HVB : Aside0 (U.heap.size ≤ Wd.heap.size) := ⟨HKD.out.1.size⟩
      have HUV : Aside0 (U3.heap.size ≤ V.heap.size) := ⟨by have := HVB.out; have := HVS.out; have := HUS.out; omega⟩
      have HVL : Aside0 (∀ i, i < U3.heap.size → V.heap[i]? = U3.heap[i]?) := ⟨fun i hi => (hVB.block i (by have := HVB.out; have := HUS.out; omega)).trans ((HKD.out.1.block i (by have := HUS.out; omega) (by show ¬ (i = w6.heap.size + 1); have := HBLK.out; omega)).trans (HUB.out.block i hi))⟩
      have hBV : Below w.heap.size w V := HKD.out.2.trans (hVB.mono HKD.out.2.size)
      have HLV := Aside0.mk ((hVB.block _ (Nat.lt_of_lt_of_le (blk_lt HLU.out) HVB.out)).trans (HKD.out.1.cells HLU.out (by show ¬ (w5.heap.size = w6.heap.size + 1); have := HBLK.out; omega)))
      have HDV := Aside0.mk ((hVB.block _ (Nat.lt_of_lt_of_le (blk_lt HDU.out) HVB.out)).trans (HKD.out.1.cells HDU.out (by show ¬ (w6.heap.size = w6.heap.size + 1); have := HBLK.out; omega)))
      have HSTV := Aside0.mk ((hVB.block _ (Nat.lt_of_lt_of_le (blk_lt HSTU.out) HVB.out)).trans (HKD.out.1.cells HSTU.out (by show ¬ (w.heap.size + 1 = w6.heap.size + 1); have := HBLK.out; omega)))
      have HEV := Aside0.mk ((hVB.block _ (Nat.lt_of_lt_of_le (blk_lt HEU.out) HVB.out)).trans (HKD.out.1.cells HEU.out (by show ¬ (be = w6.heap.size + 1); have := HBLK.out; omega)))
      have HRV : Aside0 (V.heap[w.heap.size + 1 + 1]? = some (.cells #[.bool false] 4 (0, 0))) := ⟨(hVB.block _ (Nat.lt_of_lt_of_le (blk_lt HRU.out) HVB.out)).trans (HKD.out.1.cells HRU.out (by show ¬ (w.heap.size + 2 = w6.heap.size + 1); have := HBLK.out; omega))⟩
      have HCV := Aside0.mk ((hVB.block _ (blk_lt HC.out)).trans HC.out)
      have HDV1 := Aside0.mk ((hVB.block _ (blk_lt' HD1.out)).trans HD1.out)
      have HDL : Aside0 (U.heap.size ≤ D ∧ D < Wd.heap.size) := ⟨hD, blk_lt' HD1.out⟩
      have HWN : Aside0 (w6.heap.size + 1 < Wd.heap.size) := ⟨blk_lt HC.out⟩
      clear hD
      refine (wpIn_wide (n := 3)).1 ?_
      refine Link.range_told (F := Fence.wide) (n := 3) rfl (by decide) (gf := 58) (lb := #[.pointer (some ⟨be, 0, none⟩)]) rfl trivial (enters_of Try.func58 (by kernel_rfl) rfl)
        (each_tells (n0 := U3.heap.size) HSZ.out HF.out HTE.out (fun i hi => HVL.out i hi) HUV.out HEV.out) (fun p => Kg.trans p) (fun p W l o o' hl h1 h2 _ => Kg.put p W l o o' (Nat.le_trans HUV.out hl) h1 h2) (Below.refl _ _) (fun _ => rfl)
        (fun pre W => W.heap[Wd.heap.size]? = some (.cells #[.int .i64 (pre.length : Int)] 3 (0, 0)) ∧ LK (fun i => i = Wd.heap.size) w.heap.size w V W)
        (fun _ _ _ => False)
        (OwnFrom.and (Own.from (cells_own _ 3 (fun (pre : List Ng) => #[.int .i64 (pre.length : Int)])) _) (LK_own (Nat.le_refl _) hBV.size))
        (fun _ _ _ _ _ hs _ _ => hs)
        ⟨hV12, KeptT.refl _ _, hBV⟩
        (fun pre p a' Wr => ((pre ++ [p]).map plg <+: flatD 0 x ∧ fitT p.x ∧ V.heap.size ≤ p.base) ∧ ∃ Bx, p.base ≤ Bx ∧ k27.M Wr p.base (fun k => k < Bx) p.x p.cs ∧ Wr.heap[Bx]? = some (.cells p.cs.toArray 27 (0, 0)) ∧ a' = { tmps := #[.agg #[.int .i64 x.f0.f0, .int .i64 x.f0.f1, .string x.f1, .string x.f2, .slice A4 x.f3.length c4, .slice A5 x.f4.length c5], .int .i64 stop, .pointer (some ⟨w.heap.size, 0, none⟩), .pointer (some ⟨w.heap.size + 1, 0, none⟩), .pointer (some ⟨w.heap.size + 1 + 1, 0, none⟩), .pointer (some ⟨w2.heap.size, 0, none⟩), .func (.func 58) #[] #[.pointer (some ⟨be, 0, none⟩)], .pointer (some ⟨w5.heap.size, 0, none⟩), .pointer (some ⟨w6.heap.size, 0, none⟩), .pointer (some ⟨w6.heap.size + 1, 0, none⟩), undef, undef, .pointer (some ⟨Wd.heap.size, 0, none⟩), .int .i64 (p.d : Int), .pointer (some ⟨Bx, 0, none⟩), .agg #[.int .i64 x.f0.f0, .int .i64 x.f0.f1, .string x.f1, .string x.f2, .slice A4 x.f3.length c4, .slice A5 x.f4.length c5], .bool false, undef, .agg #[.int .i64 x.f0.f0, .int .i64 x.f0.f1, .string x.f1, .string x.f2, .slice A4 x.f3.length c4, .slice A5 x.f4.length c5], .agg (cs27 x B4 d4 B5 d5), .agg #[.int .i64 x.f0.f0, .int .i64 x.f0.f1, .string x.f1, .string x.f2, .slice B4 x.f3.length d4, .slice B5 x.f4.length d5], .func (.func 58) #[] #[.pointer (some ⟨be, 0, none⟩)], .func (.func 58) #[] #[.pointer (some ⟨be, 0, none⟩)], .bool false, .agg #[.int .i64 x.f0.f0, .int .i64 x.f0.f1, .string x.f1, .string x.f2, .slice B4 x.f3.length d4, .slice B5 x.f4.length d5], v4, .agg #[.int .i64 x.f0.f0, .int .i64 x.f0.f1, .string x.f1, .string x.f2, .slice A4 x.f3.length c4, .slice A5 x.f4.length c5], .slice Al (szT x) cl_, .agg #[.int .i64 x.f0.f0, .int .i64 x.f0.f1, .string x.f1, .string x.f2, .slice A4 x.f3.length c4, .slice A5 x.f4.length c5], .slice Ad (szT x) cd, .func (.func 58) #[] #[.pointer (some ⟨be, 0, none⟩)], undef, undef, undef, undef, undef, undef, undef, undef, undef, undef, undef, undef, undef, undef, undef, undef, undef, undef, undef, undef, undef, undef, undef, undef, undef, undef, undef, undef, undef, undef, .func (.func 58) #[] #[.pointer (some ⟨be, 0, none⟩)], .int .i64 (p.d : Int), .agg p.cs.toArray, undef, undef, undef, undef, undef, undef, undef, undef, undef, undef, undef, undef, undef, undef, undef, undef, undef, undef, undef, undef, undef, undef, undef, undef, undef, undef, undef, undef, undef, undef, undef, undef, undef, undef, undef, undef, undef, undef, undef, undef, undef], defers := [] })
        (fun pre p a' _ X Y row hs hg hr => by obtain ⟨h0, Bx, h1, h2, h3, h4⟩ := hs; exact ⟨h0, Bx, h1, M_of_own_grown h2 hg hr, cells_own Bx 27 (fun (_ : Unit) => p.cs.toArray) () X Y row h3 hg (fun r e => (hr r e).2), h4⟩)
        ?assign2 ?body2 ?done2 ?stop2
      case assign2 =>
        rintro l pre ⟨yd, y, ycs, yb⟩ W K hI ⟨yM, yhf, ypre, ylow, yb1, yb2⟩ hK
        have yM' : k27.M W yb (fun _ => True) y ycs := yM
        have yb1' : V.heap.size ≤ yb := yb1
        have yb2' : yb ≤ W.heap.size := yb2
        obtain ⟨F4, m4, F5, m5, rfl, _⟩ := k27_open (k27.K_of_M yM')
        dsimp only [encG]
        gi_wp2
        have hbl : Below W.heap.size W (W.alloc (.cells #[.int .i64 y.f0.f0, .int .i64 y.f0.f1, .string y.f1, .string y.f2, .slice F4 y.f3.length m4, .slice F5 y.f4.length m5] 27)) := below_alloc (Below.refl _ _) _
        obtain ⟨hn, hL⟩ := hI
        refine hK _ _ ((KeepsOthers.alloc _ _).from _) (Kg.below _ (hbl.mono yb2') (Nat.le_trans (HUV.out) yb1')) ⟨Mem.alloc_old hn _, hL.on hbl hBV.size⟩ ⟨⟨ypre, yhf, yb1⟩, W.heap.size, yb2, ?_, Mem.alloc_new _ _, rfl⟩
        exact k27.M_mono (fun k hk => hk.2.2.1) (k27.M_move (fun k hk => hbl.block k hk.2.2.1) (k27.M_bound yM'))
      case body2 =>
        rintro l pre ⟨yd, y, ycs, yb⟩ a' W hl ⟨r, hr⟩ ⟨hn, hK⟩ ⟨⟨ypre, yhf, yb1⟩, Bx, hBx, yM, bX, rfl⟩
        have yM' : k27.M W yb (fun k => k < Bx) y ycs := yM
        obtain ⟨F4, m4, F5, m5, rfl, _⟩ := k27_open (k27.K_of_M yM')
        have hmap : (pre ++ [(⟨yd, y, [.int .i64 y.f0.f0, .int .i64 y.f0.f1, .string y.f1, .string y.f2, .slice F4 y.f3.length m4, .slice F5 y.f4.length m5], yb⟩ : Ng)]).map plg = pre.map plg ++ [(yd, y)] := by rw [List.map_append]; rfl
        rw [hmap] at ypre
        obtain ⟨hkM, hkG⟩ := pre_at ypre
        rw [List.length_map, HML.out] at hkM
        rw [List.length_map] at hkG
        have HYD : Aside0 (yd + 1 ≤ 1099511627776) := ⟨HDEEP.out (yd, y) (ypre.subset (List.mem_append_right _ (List.mem_singleton.2 rfl)))⟩
        obtain ⟨k, hk⟩ : ∃ k, pre.length = k := ⟨_, rfl⟩
        rw [hk] at hn hkM hkG
        have HKL := Aside0.mk hk
        have HN := Aside0.mk hn
        have HKM := Aside0.mk hkM
        have HYB : Aside0 (V.heap.size ≤ yb) := ⟨yb1⟩
        have HBX : Aside0 (yb ≤ Bx) := ⟨hBx⟩
        have HYM := Aside0.mk yM'
        have HX := Aside0.mk bX
        have HFY : Aside0 (fitT y) := ⟨yhf⟩
        have HRY : Aside0 (RK W y F4 m4 F5 m5) := ⟨RK.of (k27.K_of_M yM')⟩
        have HLW := Aside0.mk (hK.1.cells HLV.out (by show ¬ (w5.heap.size = Wd.heap.size); have := HBLK.out; have := HWN.out; omega))
        have HDW := Aside0.mk (hK.1.cells HDV.out (by show ¬ (w6.heap.size = Wd.heap.size); have := HBLK.out; have := HWN.out; omega))
        have HSW := Aside0.mk (hK.1.cells HSTV.out (by show ¬ (w.heap.size + 1 = Wd.heap.size); have := HBLK.out; have := HWN.out; omega))
        have hlow : ∀ i, i < U3.heap.size → W.heap[i]? = U3.heap[i]? := fun i hi => (hK.1.block i (by have := HUV.out; omega) (by show ¬ (i = Wd.heap.size); have := HBLK.out; have := HWN.out; omega)).trans (HVL.out i hi)
        obtain ⟨adl, G4, q4, G5, q5, hAl, hlc, hlr⟩ := kid_read (Kd.F_now (Kd.F_step HCLF.out (fun i hi _ => hlow i hi))) k hkM
        rw [flatL_get x (by rw [HML.out]; exact hkM), hkG] at hlc hlr
        obtain ⟨add_, hAd, hdc⟩ := int_at (show Kd.C kint W Ad (szT x) (deepI (flatD 0 x)) from C_int_low HCD.out (fun i hi => hlow i hi)) k hkM
        rw [deepI_get _ (by rw [HML.out]; exact hkM), hkG] at hdc
        subst hAl hAd
        obtain ⟨pl_, hpl⟩ : ∃ p, adl.add (k * 6) = p := ⟨_, rfl⟩
        obtain ⟨pd, hpd⟩ : ∃ p, add_.add k = p := ⟨_, rfl⟩
        rw [hpl] at hlc
        rw [hpd] at hdc
        have HRL : Aside0 (RK W y G4 q4 G5 q5) := ⟨hlr⟩
        have HLC := Aside0.mk hlc
        have HDC : Aside0 (W.cell? pd = some (.int .i64 (yd : Int))) := ⟨hdc⟩
        have HMAP := Aside0.mk hmap
        have HK := Aside0.mk hK
        have n0_ := Mem.cell_of HN.out 0
        have n1_ := Mem.free_of HN.out 0
        clear hr hn hK ypre yhf hBx yM yM' bX hmap hk hlow hlc hlr hdc
        clear hkM hkG
        have e1 : ((szT x : Int) ≤ (k : Int)) = False := eq_false (by have := HKM.out; omega)
        have e2 : (szT x ≤ k) = False := eq_false (by have := HKM.out; omega)
        have e3 : ((k : Int) < (szT x : Int)) = True := eq_true (by have := HKM.out; omega)
        have e4 : (k < szT x) = True := eq_true HKM.out
        have hkn : (k : Int).toNat = k := Int.toNat_natCast k
        have hkp : (0 : Int) ≤ (k : Int) := Int.natCast_nonneg k
        gi_wp2_with (fail)
        have hS0 : (W.drew.cell? ⟨Wd.heap.size, 0, none⟩ = some (.int .i64 (k : Int))) ∧ (W.drew.cell? ⟨w5.heap.size, 0, none⟩ = some (.slice (some adl) (szT x) cl_)) ∧ (W.drew.cell? ⟨w6.heap.size, 0, none⟩ = some (.slice (some add_) (szT x) cd)) ∧ (W.drew.cell? pd = some (.int .i64 (yd : Int))) ∧ (W.drew.cell? ⟨Bx, 0, none⟩ = some (.int .i64 y.f0.f0) ∧ W.drew.cell? ⟨Bx, 1, none⟩ = some (.int .i64 y.f0.f1) ∧ W.drew.cell? ⟨Bx, 2, none⟩ = some (.string y.f1) ∧ W.drew.cell? ⟨Bx, 3, none⟩ = some (.string y.f2) ∧ W.drew.cell? ⟨Bx, 4, none⟩ = some (.slice F4 y.f3.length m4) ∧ W.drew.cell? ⟨Bx, 5, none⟩ = some (.slice F5 y.f4.length m5)) ∧ (W.drew.cell? pl_ = some (.int .i64 y.f0.f0) ∧ W.drew.cell? ⟨pl_.block, pl_.off + 1, none⟩ = some (.int .i64 y.f0.f1) ∧ W.drew.cell? ⟨pl_.block, pl_.off + 2, none⟩ = some (.string y.f1) ∧ W.drew.cell? ⟨pl_.block, pl_.off + 3, none⟩ = some (.string y.f2) ∧ W.drew.cell? ⟨pl_.block, pl_.off + 4, none⟩ = some (.slice G4 y.f3.length q4) ∧ W.drew.cell? ⟨pl_.block, pl_.off + 5, none⟩ = some (.slice G5 y.f4.length q5)) := ⟨n0_, Mem.cell_of HLW.out 0, Mem.cell_of HDW.out 0, HDC.out, ⟨Mem.cell_of HX.out 0, Mem.cell_of HX.out 1, Mem.cell_of HX.out 2, Mem.cell_of HX.out 3, Mem.cell_of HX.out 4, Mem.cell_of HX.out 5⟩, HLC.out⟩
        clear n0_ n1_
        refine Round.start (n := 21) (S := (fun w' => (w'.cell? ⟨Wd.heap.size, 0, none⟩ = some (.int .i64 (k : Int))) ∧ (w'.cell? ⟨w5.heap.size, 0, none⟩ = some (.slice (some adl) (szT x) cl_)) ∧ (w'.cell? ⟨w6.heap.size, 0, none⟩ = some (.slice (some add_) (szT x) cd)) ∧ (w'.cell? pd = some (.int .i64 (yd : Int))) ∧ (w'.cell? ⟨Bx, 0, none⟩ = some (.int .i64 y.f0.f0) ∧ w'.cell? ⟨Bx, 1, none⟩ = some (.int .i64 y.f0.f1) ∧ w'.cell? ⟨Bx, 2, none⟩ = some (.string y.f1) ∧ w'.cell? ⟨Bx, 3, none⟩ = some (.string y.f2) ∧ w'.cell? ⟨Bx, 4, none⟩ = some (.slice F4 y.f3.length m4) ∧ w'.cell? ⟨Bx, 5, none⟩ = some (.slice F5 y.f4.length m5)) ∧ (w'.cell? pl_ = some (.int .i64 y.f0.f0) ∧ w'.cell? ⟨pl_.block, pl_.off + 1, none⟩ = some (.int .i64 y.f0.f1) ∧ w'.cell? ⟨pl_.block, pl_.off + 2, none⟩ = some (.string y.f1) ∧ w'.cell? ⟨pl_.block, pl_.off + 3, none⟩ = some (.string y.f2) ∧ w'.cell? ⟨pl_.block, pl_.off + 4, none⟩ = some (.slice G4 y.f3.length q4) ∧ w'.cell? ⟨pl_.block, pl_.off + 5, none⟩ = some (.slice G5 y.f4.length q5)))) (ds := []) #[false, false, false, false, false, false, false, false, false, false, false, false, false, false, false, false, false, false, false, false, false] (by kernel_rfl) rfl rfl (by kernel_rfl) (fun ⟨_, _, h⟩ => h) (hS0) (fun hHeld => ?_)
        refine with_tabW vg23.tab23 vg23.bits23 (fun HT_ HW_ => ?_)
        refine take_ (i := 0) (N := (some 64)) (v := ?_) (a' := ?_) #[true, false, false, false, false, false, false, false, false, false, false, false, false, false, false, false, false, false, false, false, false] rfl rfl (take_ofW HT_.out HW_.out (by kernel_rfl)) (fun _ _ _ h => h) (Or.inl ⟨by rfl, ?_⟩) hHeld ?_ ?_
        rotate_left
        · rintro w' ⟨h1, h2, h3, h4, ⟨s0, s1, s2, s3, s4, s5⟩, u0, u1, u2, u3, u4, u5⟩
          go_simp
          with_reducible rfl
        rotate_left
        · simp only [Act.put, List.setIfInBounds_toArray, List.set_cons_zero, List.set_cons_succ, i64_w, i32_w]
          rfl
        refine take_ (i := 1) (N := (some 65)) (v := ?_) (a' := ?_) #[true, true, false, false, false, false, false, false, false, false, false, false, false, false, false, false, false, false, false, false, false] rfl rfl (take_ofW HT_.out HW_.out (by kernel_rfl)) (fun _ _ _ h => h) (Or.inl ⟨by rfl, ?_⟩) hHeld ?_ ?_
        rotate_left
        · rintro w' ⟨h1, h2, h3, h4, ⟨s0, s1, s2, s3, s4, s5⟩, u0, u1, u2, u3, u4, u5⟩
          go_simp
          with_reducible rfl
        rotate_left
        · simp only [Act.put, List.setIfInBounds_toArray, List.set_cons_zero, List.set_cons_succ, i64_w, i32_w]
          rfl
        refine pure_ (i := 2) (N := (some 66)) (v := ?_) (a' := ?_) #[true, true, true, false, false, false, false, false, false, false, false, false, false, false, false, false, false, false, false, false, false] rfl rfl (any_of HT_.out (by kernel_rfl)) (fun _ _ _ h => h) (Or.inl ⟨by rfl, ?_⟩) ?_ ?_
        rotate_left
        · intro w'
          go_simp
          with_reducible rfl
        rotate_left
        · simp only [Act.put, List.setIfInBounds_toArray, List.set_cons_zero, List.set_cons_succ, i64_w, i32_w]
          rfl
        refine pure_ (i := 3) (N := (some 67)) (v := ?_) (a' := ?_) #[true, true, true, true, false, false, false, false, false, false, false, false, false, false, false, false, false, false, false, false, false] rfl rfl (any_of HT_.out (by kernel_rfl)) (fun _ _ _ h => h) (Or.inl ⟨by rfl, ?_⟩) ?_ ?_
        rotate_left
        · intro w'
          go_simp
          with_reducible rfl
        rotate_left
        · simp only [Act.put, List.setIfInBounds_toArray, List.set_cons_zero, List.set_cons_succ, i64_w, i32_w]
          rfl
        refine pure_ (i := 4) (N := (some 68)) (v := ?_) (a' := ?_) #[true, true, true, true, true, false, false, false, false, false, false, false, false, false, false, false, false, false, false, false, false] rfl rfl (any_of HT_.out (by kernel_rfl)) (fun _ _ _ h => h) (Or.inl ⟨by rfl, ?_⟩) ?_ ?_
        rotate_left
        · intro w'
          go_simp
          with_reducible rfl
        rotate_left
        · simp only [Act.put, List.setIfInBounds_toArray, List.set_cons_zero, List.set_cons_succ, i64_w, i32_w]
          rfl
        refine pure_ (i := 5) (N := (some 69)) (v := ?_) (a' := ?_) #[true, true, true, true, true, true, false, false, false, false, false, false, false, false, false, false, false, false, false, false, false] rfl rfl (any_of HT_.out (by kernel_rfl)) (fun _ _ _ h => h) (Or.inl ⟨by rfl, ?_⟩) ?_ ?_
        rotate_left
        · intro w'
          go_simp
          with_reducible rfl
        rotate_left
        · simp only [Act.put, List.setIfInBounds_toArray, List.set_cons_zero, List.set_cons_succ, i64_w, i32_w]
          rfl
        refine take_ (i := 6) (N := (some 70)) (v := ?_) (a' := ?_) #[true, true, true, true, true, true, true, false, false, false, false, false, false, false, false, false, false, false, false, false, false] rfl rfl (take_ofW HT_.out HW_.out (by kernel_rfl)) (fun _ _ _ h => h) (Or.inl ⟨by rfl, ?_⟩) hHeld ?_ ?_
        rotate_left
        · rintro w' ⟨h1, h2, h3, h4, ⟨s0, s1, s2, s3, s4, s5⟩, u0, u1, u2, u3, u4, u5⟩
          go_simp
          with_reducible rfl
        rotate_left
        · simp only [Act.put, List.setIfInBounds_toArray, List.set_cons_zero, List.set_cons_succ, i64_w, i32_w]
          rfl
        refine take_ (i := 7) (N := (some 71)) (v := ?_) (a' := ?_) #[true, true, true, true, true, true, true, true, false, false, false, false, false, false, false, false, false, false, false, false, false] rfl rfl (take_ofW HT_.out HW_.out (by kernel_rfl)) (fun _ _ _ h => h) (Or.inl ⟨by rfl, ?_⟩) hHeld ?_ ?_
        rotate_left
        · rintro w' ⟨h1, h2, h3, h4, ⟨s0, s1, s2, s3, s4, s5⟩, u0, u1, u2, u3, u4, u5⟩
          go_simp
          with_reducible rfl
        rotate_left
        · simp only [Act.put, List.setIfInBounds_toArray, List.set_cons_zero, List.set_cons_succ, i64_w, i32_w]
          rfl
        refine pure_ (i := 8) (N := (some 72)) (v := ?_) (a' := ?_) #[true, true, true, true, true, true, true, true, true, false, false, false, false, false, false, false, false, false, false, false, false] rfl rfl (any_of HT_.out (by kernel_rfl)) (fun _ _ _ h => h) (Or.inl ⟨by rfl, ?_⟩) ?_ ?_
        rotate_left
        · intro w'
          go_simp
          with_reducible rfl
        rotate_left
        · simp only [Act.put, List.setIfInBounds_toArray, List.set_cons_zero, List.set_cons_succ, i64_w, i32_w]
          rfl
        refine take_ (i := 9) (N := (some 73)) (v := ?_) (a' := ?_) #[true, true, true, true, true, true, true, true, true, true, false, false, false, false, false, false, false, false, false, false, false] rfl rfl (take_ofW HT_.out HW_.out (by kernel_rfl)) (fun _ _ _ h => h) (Or.inl ⟨by rfl, ?_⟩) hHeld ?_ ?_
        rotate_left
        · rintro w' ⟨h1, h2, h3, h4, ⟨s0, s1, s2, s3, s4, s5⟩, u0, u1, u2, u3, u4, u5⟩
          go_simp
          with_reducible rfl
        rotate_left
        · simp only [Act.put, List.setIfInBounds_toArray, List.set_cons_zero, List.set_cons_succ, i64_w, i32_w]
          rfl
        refine pure_ (i := 10) (N := (some 74)) (v := ?_) (a' := ?_) #[true, true, true, true, true, true, true, true, true, true, true, false, false, false, false, false, false, false, false, false, false] rfl rfl (any_of HT_.out (by kernel_rfl)) (fun _ _ _ h => h) (Or.inl ⟨by rfl, ?_⟩) ?_ ?_
        rotate_left
        · intro w'
          go_simp
          with_reducible rfl
        rotate_left
        · simp only [Act.put, List.setIfInBounds_toArray, List.set_cons_zero, List.set_cons_succ, i64_w, i32_w]
          rfl
        refine pure_ (i := 11) (N := (some 75)) (v := ?_) (a' := ?_) #[true, true, true, true, true, true, true, true, true, true, true, true, false, false, false, false, false, false, false, false, false] rfl rfl (any_of HT_.out (by kernel_rfl)) (fun _ _ _ h => h) (Or.inl ⟨by rfl, ?_⟩) ?_ ?_
        rotate_left
        · intro w'
          go_simp
          with_reducible rfl
        rotate_left
        · simp only [Act.put, List.setIfInBounds_toArray, List.set_cons_zero, List.set_cons_succ, i64_w, i32_w]
          rfl
        refine pure_ (i := 12) (N := (some 76)) (v := ?_) (a' := ?_) #[true, true, true, true, true, true, true, true, true, true, true, true, true, false, false, false, false, false, false, false, false] rfl rfl (any_of HT_.out (by kernel_rfl)) (fun _ _ _ h => h) (Or.inl ⟨by rfl, ?_⟩) ?_ ?_
        rotate_left
        · intro w'
          go_simp
          with_reducible rfl
        rotate_left
        · simp only [Act.put, List.setIfInBounds_toArray, List.set_cons_zero, List.set_cons_succ, i64_w, i32_w]
          rfl
        refine take_ (i := 13) (N := (some 77)) (v := ?_) (a' := ?_) #[true, true, true, true, true, true, true, true, true, true, true, true, true, true, false, false, false, false, false, false, false] rfl rfl (take_ofW HT_.out HW_.out (by kernel_rfl)) (fun _ _ _ h => h) (Or.inl ⟨by rfl, ?_⟩) hHeld ?_ ?_
        rotate_left
        · rintro w' ⟨h1, h2, h3, h4, ⟨s0, s1, s2, s3, s4, s5⟩, u0, u1, u2, u3, u4, u5⟩
          go_simp
          with_reducible rfl
        rotate_left
        · simp only [Act.put, List.setIfInBounds_toArray, List.set_cons_zero, List.set_cons_succ, i64_w, i32_w]
          rfl
        refine take_ (i := 14) (N := (some 78)) (v := ?_) (a' := ?_) #[true, true, true, true, true, true, true, true, true, true, true, true, true, true, true, false, false, false, false, false, false] rfl rfl (take_ofW HT_.out HW_.out (by kernel_rfl)) (fun _ _ _ h => h) (Or.inl ⟨by rfl, ?_⟩) hHeld ?_ ?_
        rotate_left
        · rintro w' ⟨h1, h2, h3, h4, ⟨s0, s1, s2, s3, s4, s5⟩, u0, u1, u2, u3, u4, u5⟩
          go_simp
          with_reducible rfl
        rotate_left
        · simp only [Act.put, List.setIfInBounds_toArray, List.set_cons_zero, List.set_cons_succ, i64_w, i32_w]
          rfl
        refine take_ (i := 15) (N := (some 79)) (v := ?_) (a' := ?_) #[true, true, true, true, true, true, true, true, true, true, true, true, true, true, true, true, false, false, false, false, false] rfl rfl (take_ofW HT_.out HW_.out (by kernel_rfl)) (fun _ _ _ h => h) (Or.inl ⟨by rfl, ?_⟩) hHeld ?_ ?_
        rotate_left
        · rintro w' ⟨h1, h2, h3, h4, ⟨s0, s1, s2, s3, s4, s5⟩, u0, u1, u2, u3, u4, u5⟩
          go_simp
          with_reducible rfl
        rotate_left
        · simp only [Act.put, List.setIfInBounds_toArray, List.set_cons_zero, List.set_cons_succ, i64_w, i32_w]
          rfl
        refine pure_ (i := 16) (N := (some 80)) (v := ?_) (a' := ?_) #[true, true, true, true, true, true, true, true, true, true, true, true, true, true, true, true, true, false, false, false, false] rfl rfl (any_of HT_.out (by kernel_rfl)) (fun _ _ _ h => h) (Or.inl ⟨by rfl, ?_⟩) ?_ ?_
        rotate_left
        · intro w'
          go_simp
          with_reducible rfl
        rotate_left
        · simp only [Act.put, List.setIfInBounds_toArray, List.set_cons_zero, List.set_cons_succ, i64_w, i32_w]
          rfl
        refine take_ (i := 17) (N := (some 81)) (v := ?_) (a' := ?_) #[true, true, true, true, true, true, true, true, true, true, true, true, true, true, true, true, true, true, false, false, false] rfl rfl (take_ofW HT_.out HW_.out (by kernel_rfl)) (fun _ _ _ h => h) (Or.inl ⟨by rfl, ?_⟩) hHeld ?_ ?_
        rotate_left
        · rintro w' ⟨h1, h2, h3, h4, ⟨s0, s1, s2, s3, s4, s5⟩, u0, u1, u2, u3, u4, u5⟩
          go_simp
          with_reducible rfl
        rotate_left
        · simp only [Act.put, List.setIfInBounds_toArray, List.set_cons_zero, List.set_cons_succ, i64_w, i32_w]
          rfl
        refine one_ (i := 18) (N := (some 82)) #[true, true, true, true, true, true, true, true, true, true, true, true, true, true, true, true, true, true, true, false, false] rfl rfl (one_of HT_.out (by kernel_rfl)) (by decide) (fun K hK => ?_)
        refine goes_ Try.func14 (by kernel_rfl) rfl #[.agg #[.int .i64 y.f0.f0, .int .i64 y.f0.f1, .string y.f1, .string y.f2, .slice F4 y.f3.length m4, .slice F5 y.f4.length m5], .agg #[.int .i64 y.f0.f0, .int .i64 y.f0.f1, .string y.f1, .string y.f2, .slice G4 y.f3.length q4, .slice G5 y.f4.length q5]] (by rfl) rfl rfl (by (try simp only [List.map_toArray, List.map_cons, List.map_nil]); first | done | rfl) ?_
        refine (rsame_calls _ y y _ _ _ _ _ _ _ _ (HRY.out.below (below_drew (Below.refl _ _))) (HRL.out.below (below_drew (Below.refl _ _))) HFY.out).mono ?_
        rintro e w7 ⟨rfl, hb7⟩
        rw [eqT_self]
        refine ⟨_, rfl, ?_⟩
        have HB7 : Aside0 (Below W.heap.size W w7) := ⟨(below_drew (Below.refl _ _)).trans hb7⟩
        have hSn : (w7.cell? ⟨Wd.heap.size, 0, none⟩ = some (.int .i64 (k : Int))) ∧ (w7.cell? ⟨w5.heap.size, 0, none⟩ = some (.slice (some adl) (szT x) cl_)) ∧ (w7.cell? ⟨w6.heap.size, 0, none⟩ = some (.slice (some add_) (szT x) cd)) ∧ (w7.cell? pd = some (.int .i64 (yd : Int))) ∧ (w7.cell? ⟨Bx, 0, none⟩ = some (.int .i64 y.f0.f0) ∧ w7.cell? ⟨Bx, 1, none⟩ = some (.int .i64 y.f0.f1) ∧ w7.cell? ⟨Bx, 2, none⟩ = some (.string y.f1) ∧ w7.cell? ⟨Bx, 3, none⟩ = some (.string y.f2) ∧ w7.cell? ⟨Bx, 4, none⟩ = some (.slice F4 y.f3.length m4) ∧ w7.cell? ⟨Bx, 5, none⟩ = some (.slice F5 y.f4.length m5)) ∧ (w7.cell? pl_ = some (.int .i64 y.f0.f0) ∧ w7.cell? ⟨pl_.block, pl_.off + 1, none⟩ = some (.int .i64 y.f0.f1) ∧ w7.cell? ⟨pl_.block, pl_.off + 2, none⟩ = some (.string y.f1) ∧ w7.cell? ⟨pl_.block, pl_.off + 3, none⟩ = some (.string y.f2) ∧ w7.cell? ⟨pl_.block, pl_.off + 4, none⟩ = some (.slice G4 y.f3.length q4) ∧ w7.cell? ⟨pl_.block, pl_.off + 5, none⟩ = some (.slice G5 y.f4.length q5)) := ⟨(hb7.cell (World.block_lt_of_cell? _ _ hHeld.1)).trans hHeld.1, (hb7.cell (World.block_lt_of_cell? _ _ hHeld.2.1)).trans hHeld.2.1, (hb7.cell (World.block_lt_of_cell? _ _ hHeld.2.2.1)).trans hHeld.2.2.1, (hb7.cell (World.block_lt_of_cell? _ _ hHeld.2.2.2.1)).trans hHeld.2.2.2.1, ⟨(hb7.cell (World.block_lt_of_cell? _ _ hHeld.2.2.2.2.1.1)).trans hHeld.2.2.2.2.1.1, (hb7.cell (World.block_lt_of_cell? _ _ hHeld.2.2.2.2.1.2.1)).trans hHeld.2.2.2.2.1.2.1, (hb7.cell (World.block_lt_of_cell? _ _ hHeld.2.2.2.2.1.2.2.1)).trans hHeld.2.2.2.2.1.2.2.1, (hb7.cell (World.block_lt_of_cell? _ _ hHeld.2.2.2.2.1.2.2.2.1)).trans hHeld.2.2.2.2.1.2.2.2.1, (hb7.cell (World.block_lt_of_cell? _ _ hHeld.2.2.2.2.1.2.2.2.2.1)).trans hHeld.2.2.2.2.1.2.2.2.2.1, (hb7.cell (World.block_lt_of_cell? _ _ hHeld.2.2.2.2.1.2.2.2.2.2)).trans hHeld.2.2.2.2.1.2.2.2.2.2⟩, ⟨(hb7.cell (World.block_lt_of_cell? _ _ hHeld.2.2.2.2.2.1)).trans hHeld.2.2.2.2.2.1, (hb7.cell (World.block_lt_of_cell? _ _ hHeld.2.2.2.2.2.2.1)).trans hHeld.2.2.2.2.2.2.1, (hb7.cell (World.block_lt_of_cell? _ _ hHeld.2.2.2.2.2.2.2.1)).trans hHeld.2.2.2.2.2.2.2.1, (hb7.cell (World.block_lt_of_cell? _ _ hHeld.2.2.2.2.2.2.2.2.1)).trans hHeld.2.2.2.2.2.2.2.2.1, (hb7.cell (World.block_lt_of_cell? _ _ hHeld.2.2.2.2.2.2.2.2.2.1)).trans hHeld.2.2.2.2.2.2.2.2.2.1, (hb7.cell (World.block_lt_of_cell? _ _ hHeld.2.2.2.2.2.2.2.2.2.2)).trans hHeld.2.2.2.2.2.2.2.2.2.2⟩⟩
        clear hb7
        refine hK.out _ _ (hSn) (fun hHeld => ?_)
        clear hK K
        refine norm_ (a' := ?_) ?_ ?_
        rotate_left
        · show Act.put _ (some 82) _ = _
          simp only [Act.put, List.setIfInBounds_toArray, List.set_cons_zero, List.set_cons_succ, i64_w, i32_w]
          rfl
        refine pure_ (i := 19) (N := (some 83)) (v := ?_) (a' := ?_) #[true, true, true, true, true, true, true, true, true, true, true, true, true, true, true, true, true, true, true, true, false] rfl rfl (any_of HT_.out (by kernel_rfl)) (fun _ _ _ h => h) (Or.inl ⟨by rfl, ?_⟩) ?_ ?_
        rotate_left
        · intro w'
          go_simp
          with_reducible rfl
        rotate_left
        · simp only [Act.put, List.setIfInBounds_toArray, List.set_cons_zero, List.set_cons_succ, i64_w, i32_w]
          rfl
        refine pure_ (i := 20) (N := (some 84)) (v := ?_) (a' := ?_) #[true, true, true, true, true, true, true, true, true, true, true, true, true, true, true, true, true, true, true, true, true] rfl rfl (any_of HT_.out (by kernel_rfl)) (fun _ _ _ h => h) (Or.inl ⟨by rfl, ?_⟩) ?_ ?_
        rotate_left
        · intro w'
          go_simp
          with_reducible rfl
        rotate_left
        · simp only [Act.put, List.setIfInBounds_toArray, List.set_cons_zero, List.set_cons_succ, i64_w, i32_w]
          rfl
        refine done_ (done_of HT_.out (by kernel_rfl)) ?_
        have HN7 := Aside0.mk ((HB7.out.block _ (blk_lt HN.out)).trans HN.out)
        have n0_ := Mem.cell_of HN7.out 0
        have n1_ := Mem.free_of HN7.out 0
        have hw1 := wrap_lenI HKM.out HSZ.out
        gi_wp2_with (fail)
        have hyn : U3.heap.size ≤ yb := Nat.le_trans HUV.out HYB.out
        refine ⟨((below_others HB7.out).trans (KeepsOthers.setCell _ _ _)).from _, Kg.trans _ (Kg.below _ (HB7.out.mono (Nat.le_trans HBX.out (Nat.le_of_lt (blk_lt HX.out)))) hyn) (Kg.box _ HN7.out (by decide) _ (by have := HVB.out; have := HUS.out; omega) (by have := HVS.out; omega)), ?_, (HK.out.on HB7.out hBV.size).set _ rfl HKD.out.2.size⟩
        rw [List.length_append, HKL.out]; exact Mem.set_heap HN7.out 0 _
      case done2 =>
        rintro D2 ys W hD2 hys ⟨hn, hK⟩ hKD2
        have hyl : ys.length = szT x := by rw [← HML.out, ← hys, List.length_map]
        rw [hyl] at hn
        have HN2 := Aside0.mk hn
        have HK := Aside0.mk hK
        have HKD2 := Aside0.mk hKD2
        have HL2 := Aside0.mk (hK.1.cells HLV.out (by show ¬ (w5.heap.size = Wd.heap.size); have := HBLK.out; have := HVB.out; have := HUS.out; have := HDL.out; have := HWN.out; omega))
        have HST2 := Aside0.mk (hK.1.cells HSTV.out (by show ¬ (w.heap.size + 1 = Wd.heap.size); have := HBLK.out; have := HVB.out; have := HUS.out; have := HDL.out; have := HWN.out; omega))
        have HR2 := Aside0.mk (hK.1.cells HRV.out (by show ¬ (w.heap.size + 1 + 1 = Wd.heap.size); have := HBLK.out; have := HVB.out; have := HUS.out; have := HDL.out; have := HWN.out; omega))
        have HC2 := Aside0.mk (hK.1.cells HCV.out (by show ¬ (w6.heap.size + 1 = Wd.heap.size); have := HBLK.out; have := HVB.out; have := HUS.out; have := HDL.out; have := HWN.out; omega))
        have HD3 := Aside0.mk (hK.1.cells HDV1.out (by show ¬ (D = Wd.heap.size); have := HBLK.out; have := HVB.out; have := HUS.out; have := HDL.out; have := HWN.out; omega))
        clear hn hK hKD2 hyl hys
        have l0 := Mem.cell_of HL2.out 0
        have q0 := Mem.cell_of HST2.out 0
        have c0 := Mem.cell_of HC2.out 0
        have n0_ := Mem.cell_of HN2.out 0
        by_cases hi : i = szT x
        case pos =>
          subst hi
          go_wp2_with (fail)
          refine (awake_calls _).mono ?_
          rintro e w9 ⟨rfl, hb9⟩
          dsimp only
          have HB9 := Aside0.mk hb9
          have HR9 := Aside0.mk ((hb9.block _ (blk_lt HR2.out)).trans HR2.out)
          have HD9 := Aside0.mk ((hb9.block _ (blk_lt' HD3.out)).trans HD3.out)
          have HE9 := Aside0.mk ((hb9.block _ (blk_lt' HKD2.out)).trans HKD2.out)
          clear hb9
          have r0 := Mem.cell_of HR9.out 0
          have r1 := Mem.free_of HR9.out 0
          go_wp2_with (fail)
          have hlt : w.heap.size + 1 + 1 < U.heap.size := by have := HBLK.out; have := HUS.out; omega
          have hd := HDL.out
          have hvs := HVS.out
          have he1 := (Mem.set_other w9 ⟨w.heap.size + 1 + 1, 0, none⟩ (.bool true) D2 (by show D2 ≠ w.heap.size + 1 + 1; omega)).trans HE9.out
          have he2 := (Mem.set_other w9 ⟨w.heap.size + 1 + 1, 0, none⟩ (.bool true) D (by show D ≠ w.heap.size + 1 + 1; omega)).trans HD9.out
          have he3 := Mem.set_heap HR9.out 0 (.bool true)
          have he4 : ((w9.setCell ⟨w.heap.size + 1 + 1, 0, none⟩ (.bool true)).putObj D2 (.deferred none)).heap[D]? = _ := (World.putObj_heap_other (by omega)).trans he2
          have he5 : ((w9.setCell ⟨w.heap.size + 1 + 1, 0, none⟩ (.bool true)).putObj D2 (.deferred none)).heap[w.heap.size + 1 + 1]? = _ := (World.putObj_heap_other (by omega)).trans he3
          have he6 : (((w9.setCell ⟨w.heap.size + 1 + 1, 0, none⟩ (.bool true)).putObj D2 (.deferred none)).putObj D (.deferred none)).heap[w.heap.size + 1 + 1]? = some (.cells #[.bool true] 4 (0, 0)) := (World.putObj_heap_other (by omega)).trans he5
          refine ⟨by simp, .inl ⟨_, _, rfl, run_takeDeferred he1, by simp, .inl ⟨_, _, rfl, run_takeDeferred he4, ?_⟩⟩⟩
          refine ⟨_, results_cb rfl _ _ (w.heap.size + 1 + 1) true rfl (Mem.cell_of he6 0) Try.underlying4, rfl, ?_⟩
          have hbw := HK.out.2.trans (HB9.out.mono HK.out.2.size)
          exact ((hbw.trans (low_set (by omega) _)).trans (belowK_b (w := V) hBV.size _ D2 _ _ hD2 he1 rfl rfl)).trans (belowK_b (w := U) hBU.size _ D _ _ HDL.out.1 he4 rfl rfl)
        have his : (i : Int) = stop := HI.out.resolve_left hi
        subst his
        have e1 : ((i : Int) == (szT x : Int)) = false := beq_eq_false_iff_ne.2 (by omega)
        have e2 : ((i : Int) = (szT x : Int)) = False := eq_false (by omega)
        have e3 : (i = szT x) = False := eq_false hi
        go_wp2_with (fail)
        refine (awake_calls _).mono ?_
        rintro e w9 ⟨rfl, hb9⟩
        dsimp only
        have HB9 := Aside0.mk hb9
        have HR9 := Aside0.mk ((hb9.block _ (blk_lt HR2.out)).trans HR2.out)
        have HD9 := Aside0.mk ((hb9.block _ (blk_lt' HD3.out)).trans HD3.out)
        have HE9 := Aside0.mk ((hb9.block _ (blk_lt' HKD2.out)).trans HKD2.out)
        clear hb9
        have r0 := Mem.cell_of HR9.out 0
        have r1 := Mem.free_of HR9.out 0
        go_wp2_with (fail)
        have hlt : w.heap.size + 1 + 1 < U.heap.size := by have := HBLK.out; have := HUS.out; omega
        have hd := HDL.out
        have hvs := HVS.out
        have he1 := (Mem.set_other w9 ⟨w.heap.size + 1 + 1, 0, none⟩ (.bool true) D2 (by show D2 ≠ w.heap.size + 1 + 1; omega)).trans HE9.out
        have he2 := (Mem.set_other w9 ⟨w.heap.size + 1 + 1, 0, none⟩ (.bool true) D (by show D ≠ w.heap.size + 1 + 1; omega)).trans HD9.out
        have he3 := Mem.set_heap HR9.out 0 (.bool true)
        have he4 : ((w9.setCell ⟨w.heap.size + 1 + 1, 0, none⟩ (.bool true)).putObj D2 (.deferred none)).heap[D]? = _ := (World.putObj_heap_other (by omega)).trans he2
        have he5 : ((w9.setCell ⟨w.heap.size + 1 + 1, 0, none⟩ (.bool true)).putObj D2 (.deferred none)).heap[w.heap.size + 1 + 1]? = _ := (World.putObj_heap_other (by omega)).trans he3
        have he6 : (((w9.setCell ⟨w.heap.size + 1 + 1, 0, none⟩ (.bool true)).putObj D2 (.deferred none)).putObj D (.deferred none)).heap[w.heap.size + 1 + 1]? = some (.cells #[.bool true] 4 (0, 0)) := (World.putObj_heap_other (by omega)).trans he5
        refine ⟨by simp, .inl ⟨_, _, rfl, run_takeDeferred he1, by simp, .inl ⟨_, _, rfl, run_takeDeferred he4, ?_⟩⟩⟩
        refine ⟨_, results_cb rfl _ _ (w.heap.size + 1 + 1) true rfl (Mem.cell_of he6 0) Try.underlying4, rfl, ?_⟩
        have hbw := HK.out.2.trans (HB9.out.mono HK.out.2.size)
        exact ((hbw.trans (low_set (by omega) _)).trans (belowK_b (w := V) hBV.size _ D2 _ _ hD2 he1 rfl rfl)).trans (belowK_b (w := U) hBU.size _ D _ _ HDL.out.1 he4 rfl rfl)
      case stop2 =>
        rintro D c pre W _ _ h _
        exact h.elim
    refine (wpIn_wide (n := 3)).1 ?_
    refine Link.range_told (F := Fence.wide) (n := 3) rfl (by decide) (gf := 58) (lb := #[.pointer (some ⟨be, 0, none⟩)]) rfl trivial (enters_of Try.func58 (by kernel_rfl) rfl)
      (each_tells (n0 := U3.heap.size) HSZ.out HF.out HTE.out (fun i hi => hUB.block i hi) hUB.size HEU.out) (fun p => Kg.trans p) (fun p W l o o' hl h1 h2 _ => Kg.put p W l o o' (Nat.le_trans hUB.size hl) h1 h2) (Below.refl _ _) (fun _ => rfl)
      (fun pre W => W.heap[w6.heap.size + 1]? = some (.cells #[.int .i64 (pre.length : Int)] 3 (0, 0)) ∧ LK (fun i => i = w6.heap.size + 1) w.heap.size w U W)
      (fun c pre W => ((c = .exit 0 ∧ ((pre.length - 1 : Nat) : Int) = stop) ∧ W.heap[w6.heap.size + 1]? = some (.cells #[.int .i64 ((pre.length - 1 : Nat) : Int)] 3 (0, 0))) ∧ LK (fun i => i = w6.heap.size + 1) w.heap.size w U W)
      (OwnFrom.and (Own.from (cells_own _ 3 (fun (pre : List Ng) => #[.int .i64 (pre.length : Int)])) _) (LK_own (Nat.le_refl _) hBU.size))
      (fun c => OwnFrom.and (OwnFrom.and (ownFrom_pure _ _) (Own.from (cells_own _ 3 (fun (pre : List Ng) => #[.int .i64 ((pre.length - 1 : Nat) : Int)])) _)) (LK_own (Nat.le_refl _) hBU.size))
      ⟨hU9, KeptT.refl _ _, hBU⟩
      (fun pre p a' Wr => ((pre ++ [p]).map plg <+: flatD 0 x ∧ fitT p.x ∧ U.heap.size ≤ p.base) ∧ ∃ Bx, p.base ≤ Bx ∧ k27.M Wr p.base (fun k => k < Bx) p.x p.cs ∧ Wr.heap[Bx]? = some (.cells p.cs.toArray 27 (0, 0)) ∧ a' = { tmps := #[.agg #[.int .i64 x.f0.f0, .int .i64 x.f0.f1, .string x.f1, .string x.f2, .slice A4 x.f3.length c4, .slice A5 x.f4.length c5], .int .i64 stop, .pointer (some ⟨w.heap.size, 0, none⟩), .pointer (some ⟨w.heap.size + 1, 0, none⟩), .pointer (some ⟨w.heap.size + 1 + 1, 0, none⟩), .pointer (some ⟨w2.heap.size, 0, none⟩), .func (.func 58) #[] #[.pointer (some ⟨be, 0, none⟩)], .pointer (some ⟨w5.heap.size, 0, none⟩), .pointer (some ⟨w6.heap.size, 0, none⟩), .pointer (some ⟨w6.heap.size + 1, 0, none⟩), .int .i64 (p.d : Int), .pointer (some ⟨Bx, 0, none⟩), undef, undef, undef, .agg #[.int .i64 x.f0.f0, .int .i64 x.f0.f1, .string x.f1, .string x.f2, .slice A4 x.f3.length c4, .slice A5 x.f4.length c5], .bool false, undef, .agg #[.int .i64 x.f0.f0, .int .i64 x.f0.f1, .string x.f1, .string x.f2, .slice A4 x.f3.length c4, .slice A5 x.f4.length c5], .agg (cs27 x B4 d4 B5 d5), .agg #[.int .i64 x.f0.f0, .int .i64 x.f0.f1, .string x.f1, .string x.f2, .slice B4 x.f3.length d4, .slice B5 x.f4.length d5], .func (.func 58) #[] #[.pointer (some ⟨be, 0, none⟩)], .func (.func 58) #[] #[.pointer (some ⟨be, 0, none⟩)], .bool false, .agg #[.int .i64 x.f0.f0, .int .i64 x.f0.f1, .string x.f1, .string x.f2, .slice B4 x.f3.length d4, .slice B5 x.f4.length d5], v4, .agg #[.int .i64 x.f0.f0, .int .i64 x.f0.f1, .string x.f1, .string x.f2, .slice A4 x.f3.length c4, .slice A5 x.f4.length c5], .slice Al (szT x) cl_, .agg #[.int .i64 x.f0.f0, .int .i64 x.f0.f1, .string x.f1, .string x.f2, .slice A4 x.f3.length c4, .slice A5 x.f4.length c5], .slice Ad (szT x) cd, .func (.func 58) #[] #[.pointer (some ⟨be, 0, none⟩)], .int .i64 (p.d : Int), .agg p.cs.toArray, undef, undef, undef, undef, undef, undef, undef, undef, undef, undef, undef, undef, undef, undef, undef, undef, undef, undef, undef, undef, undef, undef, undef, undef, undef, undef, undef, undef, undef, undef, undef, undef, undef, undef, undef, undef, undef, undef, undef, undef, undef, undef, undef, undef, undef, undef, undef, undef, undef, undef, undef, undef, undef, undef, undef, undef, undef, undef, undef, undef, undef, undef, undef, undef, undef, undef, undef, undef, undef, undef, undef, undef], defers := [] })
      (fun pre p a' _ X Y row hs hg hr => by obtain ⟨h0, Bx, h1, h2, h3, h4⟩ := hs; exact ⟨h0, Bx, h1, M_of_own_grown h2 hg hr, cells_own Bx 27 (fun (_ : Unit) => p.cs.toArray) () X Y row h3 hg (fun r e => (hr r e).2), h4⟩)
      ?assign ?body ?done ?stop
    case assign =>
      rintro l pre ⟨yd, y, ycs, yb⟩ W K hI ⟨yM, yhf, ypre, ylow, yb1, yb2⟩ hK
      have yM' : k27.M W yb (fun _ => True) y ycs := yM
      have yb1' : U.heap.size ≤ yb := yb1
      have yb2' : yb ≤ W.heap.size := yb2
      obtain ⟨F4, m4, F5, m5, rfl, _⟩ := k27_open (k27.K_of_M yM')
      dsimp only [encG]
      gi_wp2
      have hbl : Below W.heap.size W (W.alloc (.cells #[.int .i64 y.f0.f0, .int .i64 y.f0.f1, .string y.f1, .string y.f2, .slice F4 y.f3.length m4, .slice F5 y.f4.length m5] 27)) := below_alloc (Below.refl _ _) _
      obtain ⟨hn, hL⟩ := hI
      refine hK _ _ ((KeepsOthers.alloc _ _).from _) (Kg.below _ (hbl.mono yb2') (Nat.le_trans (hUB.size) yb1')) ⟨Mem.alloc_old hn _, hL.on hbl hBU.size⟩ ⟨⟨ypre, yhf, yb1⟩, W.heap.size, yb2, ?_, Mem.alloc_new _ _, rfl⟩
      exact k27.M_mono (fun k hk => hk.2.2.1) (k27.M_move (fun k hk => hbl.block k hk.2.2.1) (k27.M_bound yM'))
    case body =>
      rintro l pre ⟨yd, y, ycs, yb⟩ a' W hl ⟨r, hr⟩ ⟨hn, hK⟩ ⟨⟨ypre, yhf, yb1⟩, Bx, hBx, yM, bX, rfl⟩
      have yM' : k27.M W yb (fun k => k < Bx) y ycs := yM
      obtain ⟨F4, m4, F5, m5, rfl, _⟩ := k27_open (k27.K_of_M yM')
      have hmap : (pre ++ [(⟨yd, y, [.int .i64 y.f0.f0, .int .i64 y.f0.f1, .string y.f1, .string y.f2, .slice F4 y.f3.length m4, .slice F5 y.f4.length m5], yb⟩ : Ng)]).map plg = pre.map plg ++ [(yd, y)] := by rw [List.map_append]; rfl
      rw [hmap] at ypre
      obtain ⟨hkM, hkG⟩ := pre_at ypre
      rw [List.length_map, HML.out] at hkM
      rw [List.length_map] at hkG
      have HYD : Aside0 (yd + 1 ≤ 1099511627776) := ⟨HDEEP.out (yd, y) (ypre.subset (List.mem_append_right _ (List.mem_singleton.2 rfl)))⟩
      obtain ⟨k, hk⟩ : ∃ k, pre.length = k := ⟨_, rfl⟩
      rw [hk] at hn hkM hkG
      have HKL := Aside0.mk hk
      have HN := Aside0.mk hn
      have HKM := Aside0.mk hkM
      have HYB : Aside0 (U.heap.size ≤ yb) := ⟨yb1⟩
      have HBX : Aside0 (yb ≤ Bx) := ⟨hBx⟩
      have HYM := Aside0.mk yM'
      have HX := Aside0.mk bX
      have HFY : Aside0 (fitT y) := ⟨yhf⟩
      have HRY : Aside0 (RK W y F4 m4 F5 m5) := ⟨RK.of (k27.K_of_M yM')⟩
      have HLW := Aside0.mk (hK.1.cells HLU.out (by show ¬ (w5.heap.size = w6.heap.size + 1); have := HBLK.out; omega))
      have HDW := Aside0.mk (hK.1.cells HDU.out (by show ¬ (w6.heap.size = w6.heap.size + 1); have := HBLK.out; omega))
      have HSW := Aside0.mk (hK.1.cells HSTU.out (by show ¬ (w.heap.size + 1 = w6.heap.size + 1); have := HBLK.out; omega))
      have hlow : ∀ i, i < U3.heap.size → W.heap[i]? = U3.heap[i]? := fun i hi => (hK.1.block i (by have := HUS.out; omega) (by show ¬ (i = w6.heap.size + 1); have := HBLK.out; omega)).trans (HUB.out.block i hi)
      obtain ⟨adl, G4, q4, G5, q5, hAl, hlc, hlr⟩ := kid_read (Kd.F_now (Kd.F_step HCLF.out (fun i hi _ => hlow i hi))) k hkM
      rw [flatL_get x (by rw [HML.out]; exact hkM), hkG] at hlc hlr
      obtain ⟨add_, hAd, hdc⟩ := int_at (show Kd.C kint W Ad (szT x) (deepI (flatD 0 x)) from C_int_low HCD.out (fun i hi => hlow i hi)) k hkM
      rw [deepI_get _ (by rw [HML.out]; exact hkM), hkG] at hdc
      subst hAl hAd
      obtain ⟨pl_, hpl⟩ : ∃ p, adl.add (k * 6) = p := ⟨_, rfl⟩
      obtain ⟨pd, hpd⟩ : ∃ p, add_.add k = p := ⟨_, rfl⟩
      rw [hpl] at hlc
      rw [hpd] at hdc
      have HRL : Aside0 (RK W y G4 q4 G5 q5) := ⟨hlr⟩
      have HLC := Aside0.mk hlc
      have HDC : Aside0 (W.cell? pd = some (.int .i64 (yd : Int))) := ⟨hdc⟩
      have HMAP := Aside0.mk hmap
      have HK := Aside0.mk hK
      have n0_ := Mem.cell_of HN.out 0
      have n1_ := Mem.free_of HN.out 0
      clear hr hn hK ypre yhf hBx yM yM' bX hmap hk hlow hlc hlr hdc
      have s0_ := Mem.cell_of HSW.out 0
      by_cases hst : (k : Int) = stop
      case pos =>
        have g1 : ((k : Int) == stop) = true := beq_iff_eq.2 hst
        have HST := Aside0.mk hst
        clear hst hkM hkG
        gi_wp2_with (fail)
        refine ⟨(KeepsOthers.refl _).from _, ⟨⟨rfl, ?_⟩, ?_⟩, HK.out⟩
        · rw [List.length_append, HKL.out]; exact HST.out
        · rw [List.length_append, HKL.out]; exact HN.out
      have g1 : ((k : Int) == stop) = false := beq_eq_false_iff_ne.2 hst
      clear hst hkM hkG
      have e1 : ((szT x : Int) ≤ (k : Int)) = False := eq_false (by have := HKM.out; omega)
      have e2 : (szT x ≤ k) = False := eq_false (by have := HKM.out; omega)
      have e3 : ((k : Int) < (szT x : Int)) = True := eq_true (by have := HKM.out; omega)
      have e4 : (k < szT x) = True := eq_true HKM.out
      have hkn : (k : Int).toNat = k := Int.toNat_natCast k
      have hkp : (0 : Int) ≤ (k : Int) := Int.natCast_nonneg k
      gi_wp2_with (fail)
      have hS0 : (W.drew.cell? ⟨w6.heap.size + 1, 0, none⟩ = some (.int .i64 (k : Int))) ∧ (W.drew.cell? ⟨w5.heap.size, 0, none⟩ = some (.slice (some adl) (szT x) cl_)) ∧ (W.drew.cell? ⟨w6.heap.size, 0, none⟩ = some (.slice (some add_) (szT x) cd)) ∧ (W.drew.cell? pd = some (.int .i64 (yd : Int))) ∧ (W.drew.cell? ⟨Bx, 0, none⟩ = some (.int .i64 y.f0.f0) ∧ W.drew.cell? ⟨Bx, 1, none⟩ = some (.int .i64 y.f0.f1) ∧ W.drew.cell? ⟨Bx, 2, none⟩ = some (.string y.f1) ∧ W.drew.cell? ⟨Bx, 3, none⟩ = some (.string y.f2) ∧ W.drew.cell? ⟨Bx, 4, none⟩ = some (.slice F4 y.f3.length m4) ∧ W.drew.cell? ⟨Bx, 5, none⟩ = some (.slice F5 y.f4.length m5)) ∧ (W.drew.cell? pl_ = some (.int .i64 y.f0.f0) ∧ W.drew.cell? ⟨pl_.block, pl_.off + 1, none⟩ = some (.int .i64 y.f0.f1) ∧ W.drew.cell? ⟨pl_.block, pl_.off + 2, none⟩ = some (.string y.f1) ∧ W.drew.cell? ⟨pl_.block, pl_.off + 3, none⟩ = some (.string y.f2) ∧ W.drew.cell? ⟨pl_.block, pl_.off + 4, none⟩ = some (.slice G4 y.f3.length q4) ∧ W.drew.cell? ⟨pl_.block, pl_.off + 5, none⟩ = some (.slice G5 y.f4.length q5)) := ⟨n0_, Mem.cell_of HLW.out 0, Mem.cell_of HDW.out 0, HDC.out, ⟨Mem.cell_of HX.out 0, Mem.cell_of HX.out 1, Mem.cell_of HX.out 2, Mem.cell_of HX.out 3, Mem.cell_of HX.out 4, Mem.cell_of HX.out 5⟩, HLC.out⟩
      clear n0_ n1_ s0_ g1
      refine Round.start (n := 21) (S := (fun w' => (w'.cell? ⟨w6.heap.size + 1, 0, none⟩ = some (.int .i64 (k : Int))) ∧ (w'.cell? ⟨w5.heap.size, 0, none⟩ = some (.slice (some adl) (szT x) cl_)) ∧ (w'.cell? ⟨w6.heap.size, 0, none⟩ = some (.slice (some add_) (szT x) cd)) ∧ (w'.cell? pd = some (.int .i64 (yd : Int))) ∧ (w'.cell? ⟨Bx, 0, none⟩ = some (.int .i64 y.f0.f0) ∧ w'.cell? ⟨Bx, 1, none⟩ = some (.int .i64 y.f0.f1) ∧ w'.cell? ⟨Bx, 2, none⟩ = some (.string y.f1) ∧ w'.cell? ⟨Bx, 3, none⟩ = some (.string y.f2) ∧ w'.cell? ⟨Bx, 4, none⟩ = some (.slice F4 y.f3.length m4) ∧ w'.cell? ⟨Bx, 5, none⟩ = some (.slice F5 y.f4.length m5)) ∧ (w'.cell? pl_ = some (.int .i64 y.f0.f0) ∧ w'.cell? ⟨pl_.block, pl_.off + 1, none⟩ = some (.int .i64 y.f0.f1) ∧ w'.cell? ⟨pl_.block, pl_.off + 2, none⟩ = some (.string y.f1) ∧ w'.cell? ⟨pl_.block, pl_.off + 3, none⟩ = some (.string y.f2) ∧ w'.cell? ⟨pl_.block, pl_.off + 4, none⟩ = some (.slice G4 y.f3.length q4) ∧ w'.cell? ⟨pl_.block, pl_.off + 5, none⟩ = some (.slice G5 y.f4.length q5)))) (ds := []) #[false, false, false, false, false, false, false, false, false, false, false, false, false, false, false, false, false, false, false, false, false] (by kernel_rfl) rfl rfl (by kernel_rfl) (fun ⟨_, _, h⟩ => h) (hS0) (fun hHeld => ?_)
      refine with_tabW vg15.tab15 vg15.bits15 (fun HT_ HW_ => ?_)
      refine take_ (i := 0) (N := (some 36)) (v := ?_) (a' := ?_) #[true, false, false, false, false, false, false, false, false, false, false, false, false, false, false, false, false, false, false, false, false] rfl rfl (take_ofW HT_.out HW_.out (by kernel_rfl)) (fun _ _ _ h => h) (Or.inl ⟨by rfl, ?_⟩) hHeld ?_ ?_
      rotate_left
      · rintro w' ⟨h1, h2, h3, h4, ⟨s0, s1, s2, s3, s4, s5⟩, u0, u1, u2, u3, u4, u5⟩
        go_simp
        with_reducible rfl
      rotate_left
      · simp only [Act.put, List.setIfInBounds_toArray, List.set_cons_zero, List.set_cons_succ, i64_w, i32_w]
        rfl
      refine take_ (i := 1) (N := (some 37)) (v := ?_) (a' := ?_) #[true, true, false, false, false, false, false, false, false, false, false, false, false, false, false, false, false, false, false, false, false] rfl rfl (take_ofW HT_.out HW_.out (by kernel_rfl)) (fun _ _ _ h => h) (Or.inl ⟨by rfl, ?_⟩) hHeld ?_ ?_
      rotate_left
      · rintro w' ⟨h1, h2, h3, h4, ⟨s0, s1, s2, s3, s4, s5⟩, u0, u1, u2, u3, u4, u5⟩
        go_simp
        with_reducible rfl
      rotate_left
      · simp only [Act.put, List.setIfInBounds_toArray, List.set_cons_zero, List.set_cons_succ, i64_w, i32_w]
        rfl
      refine pure_ (i := 2) (N := (some 38)) (v := ?_) (a' := ?_) #[true, true, true, false, false, false, false, false, false, false, false, false, false, false, false, false, false, false, false, false, false] rfl rfl (any_of HT_.out (by kernel_rfl)) (fun _ _ _ h => h) (Or.inl ⟨by rfl, ?_⟩) ?_ ?_
      rotate_left
      · intro w'
        go_simp
        with_reducible rfl
      rotate_left
      · simp only [Act.put, List.setIfInBounds_toArray, List.set_cons_zero, List.set_cons_succ, i64_w, i32_w]
        rfl
      refine pure_ (i := 3) (N := (some 39)) (v := ?_) (a' := ?_) #[true, true, true, true, false, false, false, false, false, false, false, false, false, false, false, false, false, false, false, false, false] rfl rfl (any_of HT_.out (by kernel_rfl)) (fun _ _ _ h => h) (Or.inl ⟨by rfl, ?_⟩) ?_ ?_
      rotate_left
      · intro w'
        go_simp
        with_reducible rfl
      rotate_left
      · simp only [Act.put, List.setIfInBounds_toArray, List.set_cons_zero, List.set_cons_succ, i64_w, i32_w]
        rfl
      refine pure_ (i := 4) (N := (some 40)) (v := ?_) (a' := ?_) #[true, true, true, true, true, false, false, false, false, false, false, false, false, false, false, false, false, false, false, false, false] rfl rfl (any_of HT_.out (by kernel_rfl)) (fun _ _ _ h => h) (Or.inl ⟨by rfl, ?_⟩) ?_ ?_
      rotate_left
      · intro w'
        go_simp
        with_reducible rfl
      rotate_left
      · simp only [Act.put, List.setIfInBounds_toArray, List.set_cons_zero, List.set_cons_succ, i64_w, i32_w]
        rfl
      refine pure_ (i := 5) (N := (some 41)) (v := ?_) (a' := ?_) #[true, true, true, true, true, true, false, false, false, false, false, false, false, false, false, false, false, false, false, false, false] rfl rfl (any_of HT_.out (by kernel_rfl)) (fun _ _ _ h => h) (Or.inl ⟨by rfl, ?_⟩) ?_ ?_
      rotate_left
      · intro w'
        go_simp
        with_reducible rfl
      rotate_left
      · simp only [Act.put, List.setIfInBounds_toArray, List.set_cons_zero, List.set_cons_succ, i64_w, i32_w]
        rfl
      refine take_ (i := 6) (N := (some 42)) (v := ?_) (a' := ?_) #[true, true, true, true, true, true, true, false, false, false, false, false, false, false, false, false, false, false, false, false, false] rfl rfl (take_ofW HT_.out HW_.out (by kernel_rfl)) (fun _ _ _ h => h) (Or.inl ⟨by rfl, ?_⟩) hHeld ?_ ?_
      rotate_left
      · rintro w' ⟨h1, h2, h3, h4, ⟨s0, s1, s2, s3, s4, s5⟩, u0, u1, u2, u3, u4, u5⟩
        go_simp
        with_reducible rfl
      rotate_left
      · simp only [Act.put, List.setIfInBounds_toArray, List.set_cons_zero, List.set_cons_succ, i64_w, i32_w]
        rfl
      refine take_ (i := 7) (N := (some 43)) (v := ?_) (a' := ?_) #[true, true, true, true, true, true, true, true, false, false, false, false, false, false, false, false, false, false, false, false, false] rfl rfl (take_ofW HT_.out HW_.out (by kernel_rfl)) (fun _ _ _ h => h) (Or.inl ⟨by rfl, ?_⟩) hHeld ?_ ?_
      rotate_left
      · rintro w' ⟨h1, h2, h3, h4, ⟨s0, s1, s2, s3, s4, s5⟩, u0, u1, u2, u3, u4, u5⟩
        go_simp
        with_reducible rfl
      rotate_left
      · simp only [Act.put, List.setIfInBounds_toArray, List.set_cons_zero, List.set_cons_succ, i64_w, i32_w]
        rfl
      refine pure_ (i := 8) (N := (some 44)) (v := ?_) (a' := ?_) #[true, true, true, true, true, true, true, true, true, false, false, false, false, false, false, false, false, false, false, false, false] rfl rfl (any_of HT_.out (by kernel_rfl)) (fun _ _ _ h => h) (Or.inl ⟨by rfl, ?_⟩) ?_ ?_
      rotate_left
      · intro w'
        go_simp
        with_reducible rfl
      rotate_left
      · simp only [Act.put, List.setIfInBounds_toArray, List.set_cons_zero, List.set_cons_succ, i64_w, i32_w]
        rfl
      refine take_ (i := 9) (N := (some 45)) (v := ?_) (a' := ?_) #[true, true, true, true, true, true, true, true, true, true, false, false, false, false, false, false, false, false, false, false, false] rfl rfl (take_ofW HT_.out HW_.out (by kernel_rfl)) (fun _ _ _ h => h) (Or.inl ⟨by rfl, ?_⟩) hHeld ?_ ?_
      rotate_left
      · rintro w' ⟨h1, h2, h3, h4, ⟨s0, s1, s2, s3, s4, s5⟩, u0, u1, u2, u3, u4, u5⟩
        go_simp
        with_reducible rfl
      rotate_left
      · simp only [Act.put, List.setIfInBounds_toArray, List.set_cons_zero, List.set_cons_succ, i64_w, i32_w]
        rfl
      refine pure_ (i := 10) (N := (some 46)) (v := ?_) (a' := ?_) #[true, true, true, true, true, true, true, true, true, true, true, false, false, false, false, false, false, false, false, false, false] rfl rfl (any_of HT_.out (by kernel_rfl)) (fun _ _ _ h => h) (Or.inl ⟨by rfl, ?_⟩) ?_ ?_
      rotate_left
      · intro w'
        go_simp
        with_reducible rfl
      rotate_left
      · simp only [Act.put, List.setIfInBounds_toArray, List.set_cons_zero, List.set_cons_succ, i64_w, i32_w]
        rfl
      refine pure_ (i := 11) (N := (some 47)) (v := ?_) (a' := ?_) #[true, true, true, true, true, true, true, true, true, true, true, true, false, false, false, false, false, false, false, false, false] rfl rfl (any_of HT_.out (by kernel_rfl)) (fun _ _ _ h => h) (Or.inl ⟨by rfl, ?_⟩) ?_ ?_
      rotate_left
      · intro w'
        go_simp
        with_reducible rfl
      rotate_left
      · simp only [Act.put, List.setIfInBounds_toArray, List.set_cons_zero, List.set_cons_succ, i64_w, i32_w]
        rfl
      refine pure_ (i := 12) (N := (some 48)) (v := ?_) (a' := ?_) #[true, true, true, true, true, true, true, true, true, true, true, true, true, false, false, false, false, false, false, false, false] rfl rfl (any_of HT_.out (by kernel_rfl)) (fun _ _ _ h => h) (Or.inl ⟨by rfl, ?_⟩) ?_ ?_
      rotate_left
      · intro w'
        go_simp
        with_reducible rfl
      rotate_left
      · simp only [Act.put, List.setIfInBounds_toArray, List.set_cons_zero, List.set_cons_succ, i64_w, i32_w]
        rfl
      refine take_ (i := 13) (N := (some 49)) (v := ?_) (a' := ?_) #[true, true, true, true, true, true, true, true, true, true, true, true, true, true, false, false, false, false, false, false, false] rfl rfl (take_ofW HT_.out HW_.out (by kernel_rfl)) (fun _ _ _ h => h) (Or.inl ⟨by rfl, ?_⟩) hHeld ?_ ?_
      rotate_left
      · rintro w' ⟨h1, h2, h3, h4, ⟨s0, s1, s2, s3, s4, s5⟩, u0, u1, u2, u3, u4, u5⟩
        go_simp
        with_reducible rfl
      rotate_left
      · simp only [Act.put, List.setIfInBounds_toArray, List.set_cons_zero, List.set_cons_succ, i64_w, i32_w]
        rfl
      refine take_ (i := 14) (N := (some 50)) (v := ?_) (a' := ?_) #[true, true, true, true, true, true, true, true, true, true, true, true, true, true, true, false, false, false, false, false, false] rfl rfl (take_ofW HT_.out HW_.out (by kernel_rfl)) (fun _ _ _ h => h) (Or.inl ⟨by rfl, ?_⟩) hHeld ?_ ?_
      rotate_left
      · rintro w' ⟨h1, h2, h3, h4, ⟨s0, s1, s2, s3, s4, s5⟩, u0, u1, u2, u3, u4, u5⟩
        go_simp
        with_reducible rfl
      rotate_left
      · simp only [Act.put, List.setIfInBounds_toArray, List.set_cons_zero, List.set_cons_succ, i64_w, i32_w]
        rfl
      refine take_ (i := 15) (N := (some 51)) (v := ?_) (a' := ?_) #[true, true, true, true, true, true, true, true, true, true, true, true, true, true, true, true, false, false, false, false, false] rfl rfl (take_ofW HT_.out HW_.out (by kernel_rfl)) (fun _ _ _ h => h) (Or.inl ⟨by rfl, ?_⟩) hHeld ?_ ?_
      rotate_left
      · rintro w' ⟨h1, h2, h3, h4, ⟨s0, s1, s2, s3, s4, s5⟩, u0, u1, u2, u3, u4, u5⟩
        go_simp
        with_reducible rfl
      rotate_left
      · simp only [Act.put, List.setIfInBounds_toArray, List.set_cons_zero, List.set_cons_succ, i64_w, i32_w]
        rfl
      refine pure_ (i := 16) (N := (some 52)) (v := ?_) (a' := ?_) #[true, true, true, true, true, true, true, true, true, true, true, true, true, true, true, true, true, false, false, false, false] rfl rfl (any_of HT_.out (by kernel_rfl)) (fun _ _ _ h => h) (Or.inl ⟨by rfl, ?_⟩) ?_ ?_
      rotate_left
      · intro w'
        go_simp
        with_reducible rfl
      rotate_left
      · simp only [Act.put, List.setIfInBounds_toArray, List.set_cons_zero, List.set_cons_succ, i64_w, i32_w]
        rfl
      refine take_ (i := 17) (N := (some 53)) (v := ?_) (a' := ?_) #[true, true, true, true, true, true, true, true, true, true, true, true, true, true, true, true, true, true, false, false, false] rfl rfl (take_ofW HT_.out HW_.out (by kernel_rfl)) (fun _ _ _ h => h) (Or.inl ⟨by rfl, ?_⟩) hHeld ?_ ?_
      rotate_left
      · rintro w' ⟨h1, h2, h3, h4, ⟨s0, s1, s2, s3, s4, s5⟩, u0, u1, u2, u3, u4, u5⟩
        go_simp
        with_reducible rfl
      rotate_left
      · simp only [Act.put, List.setIfInBounds_toArray, List.set_cons_zero, List.set_cons_succ, i64_w, i32_w]
        rfl
      refine one_ (i := 18) (N := (some 54)) #[true, true, true, true, true, true, true, true, true, true, true, true, true, true, true, true, true, true, true, false, false] rfl rfl (one_of HT_.out (by kernel_rfl)) (by decide) (fun K hK => ?_)
      refine goes_ Try.func14 (by kernel_rfl) rfl #[.agg #[.int .i64 y.f0.f0, .int .i64 y.f0.f1, .string y.f1, .string y.f2, .slice F4 y.f3.length m4, .slice F5 y.f4.length m5], .agg #[.int .i64 y.f0.f0, .int .i64 y.f0.f1, .string y.f1, .string y.f2, .slice G4 y.f3.length q4, .slice G5 y.f4.length q5]] (by rfl) rfl rfl (by (try simp only [List.map_toArray, List.map_cons, List.map_nil]); first | done | rfl) ?_
      refine (rsame_calls _ y y _ _ _ _ _ _ _ _ (HRY.out.below (below_drew (Below.refl _ _))) (HRL.out.below (below_drew (Below.refl _ _))) HFY.out).mono ?_
      rintro e w7 ⟨rfl, hb7⟩
      rw [eqT_self]
      refine ⟨_, rfl, ?_⟩
      have HB7 : Aside0 (Below W.heap.size W w7) := ⟨(below_drew (Below.refl _ _)).trans hb7⟩
      have hSn : (w7.cell? ⟨w6.heap.size + 1, 0, none⟩ = some (.int .i64 (k : Int))) ∧ (w7.cell? ⟨w5.heap.size, 0, none⟩ = some (.slice (some adl) (szT x) cl_)) ∧ (w7.cell? ⟨w6.heap.size, 0, none⟩ = some (.slice (some add_) (szT x) cd)) ∧ (w7.cell? pd = some (.int .i64 (yd : Int))) ∧ (w7.cell? ⟨Bx, 0, none⟩ = some (.int .i64 y.f0.f0) ∧ w7.cell? ⟨Bx, 1, none⟩ = some (.int .i64 y.f0.f1) ∧ w7.cell? ⟨Bx, 2, none⟩ = some (.string y.f1) ∧ w7.cell? ⟨Bx, 3, none⟩ = some (.string y.f2) ∧ w7.cell? ⟨Bx, 4, none⟩ = some (.slice F4 y.f3.length m4) ∧ w7.cell? ⟨Bx, 5, none⟩ = some (.slice F5 y.f4.length m5)) ∧ (w7.cell? pl_ = some (.int .i64 y.f0.f0) ∧ w7.cell? ⟨pl_.block, pl_.off + 1, none⟩ = some (.int .i64 y.f0.f1) ∧ w7.cell? ⟨pl_.block, pl_.off + 2, none⟩ = some (.string y.f1) ∧ w7.cell? ⟨pl_.block, pl_.off + 3, none⟩ = some (.string y.f2) ∧ w7.cell? ⟨pl_.block, pl_.off + 4, none⟩ = some (.slice G4 y.f3.length q4) ∧ w7.cell? ⟨pl_.block, pl_.off + 5, none⟩ = some (.slice G5 y.f4.length q5)) := ⟨(hb7.cell (World.block_lt_of_cell? _ _ hHeld.1)).trans hHeld.1, (hb7.cell (World.block_lt_of_cell? _ _ hHeld.2.1)).trans hHeld.2.1, (hb7.cell (World.block_lt_of_cell? _ _ hHeld.2.2.1)).trans hHeld.2.2.1, (hb7.cell (World.block_lt_of_cell? _ _ hHeld.2.2.2.1)).trans hHeld.2.2.2.1, ⟨(hb7.cell (World.block_lt_of_cell? _ _ hHeld.2.2.2.2.1.1)).trans hHeld.2.2.2.2.1.1, (hb7.cell (World.block_lt_of_cell? _ _ hHeld.2.2.2.2.1.2.1)).trans hHeld.2.2.2.2.1.2.1, (hb7.cell (World.block_lt_of_cell? _ _ hHeld.2.2.2.2.1.2.2.1)).trans hHeld.2.2.2.2.1.2.2.1, (hb7.cell (World.block_lt_of_cell? _ _ hHeld.2.2.2.2.1.2.2.2.1)).trans hHeld.2.2.2.2.1.2.2.2.1, (hb7.cell (World.block_lt_of_cell? _ _ hHeld.2.2.2.2.1.2.2.2.2.1)).trans hHeld.2.2.2.2.1.2.2.2.2.1, (hb7.cell (World.block_lt_of_cell? _ _ hHeld.2.2.2.2.1.2.2.2.2.2)).trans hHeld.2.2.2.2.1.2.2.2.2.2⟩, ⟨(hb7.cell (World.block_lt_of_cell? _ _ hHeld.2.2.2.2.2.1)).trans hHeld.2.2.2.2.2.1, (hb7.cell (World.block_lt_of_cell? _ _ hHeld.2.2.2.2.2.2.1)).trans hHeld.2.2.2.2.2.2.1, (hb7.cell (World.block_lt_of_cell? _ _ hHeld.2.2.2.2.2.2.2.1)).trans hHeld.2.2.2.2.2.2.2.1, (hb7.cell (World.block_lt_of_cell? _ _ hHeld.2.2.2.2.2.2.2.2.1)).trans hHeld.2.2.2.2.2.2.2.2.1, (hb7.cell (World.block_lt_of_cell? _ _ hHeld.2.2.2.2.2.2.2.2.2.1)).trans hHeld.2.2.2.2.2.2.2.2.2.1, (hb7.cell (World.block_lt_of_cell? _ _ hHeld.2.2.2.2.2.2.2.2.2.2)).trans hHeld.2.2.2.2.2.2.2.2.2.2⟩⟩
      clear hb7
      refine hK.out _ _ (hSn) (fun hHeld => ?_)
      clear hK K
      refine norm_ (a' := ?_) ?_ ?_
      rotate_left
      · show Act.put _ (some 54) _ = _
        simp only [Act.put, List.setIfInBounds_toArray, List.set_cons_zero, List.set_cons_succ, i64_w, i32_w]
        rfl
      refine pure_ (i := 19) (N := (some 55)) (v := ?_) (a' := ?_) #[true, true, true, true, true, true, true, true, true, true, true, true, true, true, true, true, true, true, true, true, false] rfl rfl (any_of HT_.out (by kernel_rfl)) (fun _ _ _ h => h) (Or.inl ⟨by rfl, ?_⟩) ?_ ?_
      rotate_left
      · intro w'
        go_simp
        with_reducible rfl
      rotate_left
      · simp only [Act.put, List.setIfInBounds_toArray, List.set_cons_zero, List.set_cons_succ, i64_w, i32_w]
        rfl
      refine pure_ (i := 20) (N := (some 56)) (v := ?_) (a' := ?_) #[true, true, true, true, true, true, true, true, true, true, true, true, true, true, true, true, true, true, true, true, true] rfl rfl (any_of HT_.out (by kernel_rfl)) (fun _ _ _ h => h) (Or.inl ⟨by rfl, ?_⟩) ?_ ?_
      rotate_left
      · intro w'
        go_simp
        with_reducible rfl
      rotate_left
      · simp only [Act.put, List.setIfInBounds_toArray, List.set_cons_zero, List.set_cons_succ, i64_w, i32_w]
        rfl
      refine done_ (done_of HT_.out (by kernel_rfl)) ?_
      have HN7 := Aside0.mk ((HB7.out.block _ (blk_lt HN.out)).trans HN.out)
      have HX7 := Aside0.mk ((HB7.out.block _ (blk_lt HX.out)).trans HX.out)
      have n0_ := Mem.cell_of HN7.out 0
      have n1_ := Mem.free_of HN7.out 0
      have hw1 := wrap_lenI HKM.out HSZ.out
      have HX8 : Aside0 ((w7.setCell ⟨w6.heap.size + 1, 0, none⟩ (.int .i64 ((k : Int) + 1))).heap[Bx]? = some (.cells #[.int .i64 y.f0.f0, .int .i64 y.f0.f1, .string y.f1, .string y.f2, .slice F4 y.f3.length m4, .slice F5 y.f4.length m5] 27 (0, 0))) := ⟨(Mem.set_other _ _ _ _ (by show Bx ≠ w6.heap.size + 1; have := HBX.out; have := HYB.out; have := HUS.out; have := HBLK.out; omega)).trans HX7.out⟩
      have x0 := Mem.cell_of HX8.out 0
      have x1 := Mem.cell_of HX8.out 1
      have x2 := Mem.cell_of HX8.out 2
      have x3 := Mem.cell_of HX8.out 3
      have x4 := Mem.cell_of HX8.out 4
      have x5 := Mem.cell_of HX8.out 5
      gi_wp2_with (fail)
      refine ⟨trivial, ?_⟩
      have hlt : yb ≤ w7.heap.size := Nat.le_trans HBX.out (Nat.le_of_lt (blk_lt HX7.out))
      have hm : k27.M (w7.setCell ⟨w6.heap.size + 1, 0, none⟩ (.int .i64 ((k : Int) + 1))) yb (fun k => k < Bx) y (#[.int .i64 y.f0.f0, .int .i64 y.f0.f1, .string y.f1, .string y.f2, .slice F4 y.f3.length m4, .slice F5 y.f4.length m5] : Array Value).toList := k27.M_mono (fun k hk => hk.1) (k27.M_move (fun q hq => (Mem.set_other _ _ _ _ (by show q ≠ w6.heap.size + 1; have := hq.2.1; have := HYB.out; have := HUS.out; have := HBLK.out; omega)).trans (HB7.out.block q hq.2.2.1)) (k27.M_bound HYM.out))
      have hsp := Sp.made _ _ y _ (Nat.le_refl _) hm
      rw [Mem.set_size] at hsp
      refine (CallsIn.inRound l (callsIn_wide.2 (spoil_calls yb w7.heap.size _ _ _ hsp hlt (by rw [Mem.set_size]; exact Nat.le_refl _)))).mono ?_
      rintro e w8 ⟨⟨v8, rfl⟩, hw8⟩
      have HW8 := Aside0.mk hw8
      clear hm hsp hw8 hw1 x0 x1 x2 x3 x4 x5 n0_ n1_
      gi_wp2_with (fail)
      have hnb : w6.heap.size + 1 < yb := by have := HYB.out; have := HUS.out; have := HBLK.out; omega
      have hyn : U3.heap.size ≤ yb := by have := HYB.out; have := HUS.out; omega
      refine ⟨((below_others HB7.out).trans ((KeepsOthers.setCell _ _ _).trans HW8.out.oth)).from _, Kg.trans _ (Kg.below _ (HB7.out.mono (Nat.le_trans HBX.out (Nat.le_of_lt (blk_lt HX.out)))) hyn) (Kg.trans _ (Kg.box _ HN7.out (by decide) _ (by have := HBLK.out; omega) (by have := HUS.out; have := HBLK.out; omega)) (Kg.below _ HW8.out.low hyn)), ?_, ?_⟩
      · rw [List.length_append, HKL.out]; exact (HW8.out.low.block _ hnb).trans (Mem.set_heap HN7.out 0 _)
      · have h1 := (HK.out.on HB7.out hBU.size).set (o := 0) (.int .i64 ((k : Int) + 1)) rfl (by have := HBLK.out; omega)
        exact ⟨⟨Nat.le_trans h1.1.size HW8.out.low.size, fun i hi hn => (HW8.out.low.block i (Nat.lt_of_lt_of_le hi HYB.out)).trans (h1.1.block i hi hn)⟩, h1.2.trans (HW8.out.low.mono (Nat.le_trans hBU.size HYB.out))⟩
    case done =>
      rintro D ys W hD hys ⟨hn, hK⟩ hKD
      refine TAIL D (szT x) W hD ⟨?_⟩ ⟨.inl rfl⟩ ⟨hK⟩ ⟨hKD⟩
      rw [show szT x = ys.length from by rw [← HML.out, ← hys, List.length_map]]
      exact hn
    case stop =>
      rintro D c pre W hD hsp ⟨⟨⟨rfl, hst⟩, hn⟩, hK⟩ hKD
      refine wpIn_wide.2 ?_
      go_wp2_with (fail)
      exact TAIL D _ W hD ⟨hn⟩ ⟨.inr hst⟩ ⟨hK⟩ ⟨hKD⟩
end Go.Proofs.Ytnkbgimihikhoaa.PVt
namespace Go.Proofs.Ytnkbgimihikhoaa.Rdb
open Go.RowKit Go.Proofs.YtnkbgimihikhoaaW.PrintWords
theorem one_le {H : Type} (d : DataW H) : 1 ≤ Rows.uptoBulk d := by
  cases d with
  | lit l => cases l <;> simp [Rows.uptoBulk]
  | _ => simp [Rows.uptoBulk]
theorem sum_le {H : Type} {α : Type} (sz : α → Nat) : ∀ (l : List (DataW H)) (xs : List α), xs.length = l.length → (∀ (i : Nat) a d, xs[i]? = some a → l[i]? = some d → sz a ≤ Rows.uptoBulk d) → (xs.map sz).sum ≤ Rows.uptoBulkAll l
  | [], [], _, _ => by simp [Rows.uptoBulkAll]
  | [], x :: xs, h, _ => by simp at h
  | d :: l, [], h, _ => by simp at h
  | d :: l, x :: xs, h, g => by
    have h1 := g 0 x d rfl rfl
    have h2 := sum_le sz l xs (by simpa using h) (fun i a e h1 h2 => g (i + 1) a e (by simpa using h1) (by simpa using h2))
    simp only [List.map_cons, List.sum_cons, Rows.uptoBulkAll]
    omega
theorem cells_get {w : World} {a : Addr} : ∀ {n : Nat} {cs : List Value}, w.cells? 0 a n = some cs → cs.length = n ∧ ∀ i u, cs[i]? = some u → w.cell? (a.add i) = some u := by
  intro n cs h
  obtain ⟨_, h1, h2⟩ := World.cells?_some h
  refine ⟨h1, fun i u hu => ?_⟩
  have hi := (List.getElem?_eq_some_iff.1 hu).1
  rw [h2 i (by omega)]
  exact hu
/-- Cells of type t that can be read as data are a value of kind d, of size at most the data's bulk. -/
def Reads (N : Nat) {α : Type} (t : TypeId) (d : Kd α) (sz : α → Nat) : Prop :=
  ∀ {H : Type} (enc : TypeId × Value → H) (w : World) (spare : Nat → Bool) (held : Bool) (fuel : Nat) (cs : List Value) (x : DataW H × List MemPlace), fuel ≤ N →
    DataW.trod enc Try.prog w 0 spare held fuel t cs = some x → ∃ a : α, d.K w a cs ∧ sz a ≤ Rows.uptoBulk x.1
theorem int {N : Nat} {t : TypeId} {k : IntKind} (ht : Try.prog.underlying t = some (.int k)) : Reads N t (Kd.int k) (fun _ => 1) := by
  intro H enc w spare held fuel cs x hN h
  obtain ⟨n, rfl, rfl, hw⟩ := DataW.trod_int ht h
  exact ⟨n, rfl, one_le _⟩
theorem bool {N : Nat} {t : TypeId} (ht : Try.prog.underlying t = some .bool) : Reads N t Kd.bool (fun _ => 1) := by
  intro H enc w spare held fuel cs x hN h
  obtain ⟨n, rfl, rfl⟩ := DataW.trod_bool ht h
  exact ⟨n, rfl, one_le _⟩
theorem string {N : Nat} {t : TypeId} (ht : Try.prog.underlying t = some .string) : Reads N t Kd.string (fun s => s.size + 1) := by
  intro H enc w spare held fuel cs x hN h
  obtain ⟨s, rfl, rfl, hw⟩ := DataW.trod_string ht h
  refine ⟨s, rfl, ?_⟩
  simp only [Rows.uptoBulk]
  have : s.data.toList.length = s.size := by rw [Array.length_toList]; rfl
  omega
theorem slice {N : Nat} {α : Type} {t e : TypeId} {d : Kd α} {sz : α → Nat} (ht : Try.prog.underlying t = some (.slice e)) (hc : Try.prog.cellsOf e = d.sz) (R : Reads N e d sz) :
    Reads (N + 1) t (Kd.slice e d) (fun xs => (xs.map sz).sum + 1) := by
  intro H enc w spare held fuel cs x hN h
  rcases DataW.trod_slice ht h with ⟨rfl, rfl⟩ | ⟨a, len, cap, elems, rest, n, hfn, rfl, rfl, _, hlc, hm, hel, hg, _, _⟩
  · exact ⟨[], ⟨none, 0, rfl, Nat.le_refl _, rfl, by simp, fun h => by simp at h⟩, by simp [Rows.uptoBulk]⟩
  · have step : ∀ i, i < len → ∃ (v : α) (c : List Value) (y : DataW H × List MemPlace), elems[i]? = some y ∧ c.length = d.sz ∧ d.K w v c ∧ (∀ j u, c[j]? = some u → w.cell? (a.add (i * d.sz + j)) = some u) ∧ sz v ≤ Rows.uptoBulk y.1 := by
      intro i hi
      have h1 := hg i hi
      obtain ⟨y, hy⟩ : ∃ y, elems[i]? = some y := ⟨_, List.getElem?_eq_getElem (by omega)⟩
      rw [hy] at h1
      obtain ⟨c, hc1, hc2⟩ := Option.bind_eq_some_iff.1 h1
      obtain ⟨v, hv1, hv2⟩ := R enc w spare held n c y (by omega) hc2
      obtain ⟨g1, g2⟩ := cells_get hc1
      rw [hc] at g1 g2
      exact ⟨v, c, y, hy, g1, hv1, fun j u hu => by
        have := g2 j u hu
        rwa [Go.Addr.add_add] at this, hv2⟩
    have build : ∀ m, m ≤ len → ∃ xs : List α, xs.length = m ∧ (∀ (i : Nat) v, xs[i]? = some v → ∃ (c : List Value) (y : DataW H × List MemPlace), elems[i]? = some y ∧ c.length = d.sz ∧ d.K w v c ∧ (∀ j u, c[j]? = some u → w.cell? (a.add (i * d.sz + j)) = some u) ∧ sz v ≤ Rows.uptoBulk y.1) := by
      intro m
      induction m with
      | zero => intro _; exact ⟨[], rfl, fun i v hv => by simp at hv⟩
      | succ m ih =>
        intro hm
        obtain ⟨xs, hx1, hx2⟩ := ih (by omega)
        obtain ⟨v, c, y, hv⟩ := step m (by omega)
        refine ⟨xs ++ [v], by simp [hx1], fun i u hu => ?_⟩
        rcases Nat.lt_or_ge i xs.length with hi | hi
        · rw [List.getElem?_append_left hi] at hu
          exact hx2 i u hu
        · have : i = m := by
            have := (List.getElem?_eq_some_iff.1 hu).1
            rw [List.length_append, List.length_singleton] at this
            omega
          subst this
          have : v = u := by rw [← hx1] at hu; simpa using hu
          subst this
          exact ⟨c, y, hv⟩
    obtain ⟨xs, hx1, hx2⟩ := build len (Nat.le_refl _)
    refine ⟨xs, ⟨some a, cap, by rw [hx1], by omega, ⟨rfl, by unfold maxLen at hm; omega, fun _ => ⟨a, rfl, fun i v hv => ?_⟩⟩⟩, ?_⟩
    · obtain ⟨c, y, _, h2, h3, h4, _⟩ := hx2 i v hv
      exact ⟨c, h2, h3, h4⟩
    · have := sum_le sz (elems.map (·.1)) xs (by rw [List.length_map]; omega) (fun i v y hv hy => by
        obtain ⟨c, z, h1, _, _, _, h5⟩ := hx2 i v hv
        rw [List.getElem?_map, h1] at hy
        have : z.1 = y := by simpa using hy
        rw [← this]; exact h5)
      simp only [Rows.uptoBulk]
      omega
/-- Fields one behind the other, from cell o on. -/
def ReadsAt (N : Nat) {α : Type} (o : Nat) (fs : List Field) (d : Kd α) (sz : α → Nat) : Prop :=
  ∀ {H : Type} (enc : TypeId × Value → H) (w : World) (spare : Nat → Bool) (held : Bool) (n : Nat) (cs : List Value) (xs : List (DataW H × List MemPlace)), n ≤ N → xs.length = fs.length →
    (∀ (i : Nat) (f : Field), fs[i]? = some f → DataW.trod enc Try.prog w 0 spare held n f.type ((cs.drop f.offset).take (Try.prog.cellsOf f.type)) = xs[i]?) →
    ∃ a : α, d.K w a ((cs.drop o).take d.sz) ∧ sz a ≤ Rows.uptoBulkAll (xs.map (·.1))
theorem last {N : Nat} {α : Type} {f : Field} {d : Kd α} {sz : α → Nat} (hc : Try.prog.cellsOf f.type = d.sz) (R : Reads N f.type d sz) : ReadsAt N f.offset [f] d sz := by
  intro H enc w spare held n cs xs hN hl hx
  match xs, hl with
  | [y], _ =>
    have h := hx 0 f rfl
    rw [hc] at h
    obtain ⟨a, h1, h2⟩ := R enc w spare held n _ y hN h
    refine ⟨a, h1, ?_⟩
    simp only [List.map_cons, List.map_nil, Rows.uptoBulkAll]
    omega
theorem more {N : Nat} {α β : Type} {f : Field} {fs : List Field} {d : Kd α} {e : Kd β} {sz : α → Nat} {sz2 : β → Nat} (hc : Try.prog.cellsOf f.type = d.sz) (R : Reads N f.type d sz) (R2 : ReadsAt N (f.offset + d.sz) fs e sz2) :
    ReadsAt N f.offset (f :: fs) (Kd.pair d e) (fun x => sz x.1 + sz2 x.2) := by
  intro H enc w spare held n cs xs hN hl hx
  match xs, hl with
  | y :: ys, hl =>
    have h := hx 0 f rfl
    rw [hc] at h
    obtain ⟨a, h1, h2⟩ := R enc w spare held n _ y hN h
    obtain ⟨b, g1, g2⟩ := R2 enc w spare held n cs ys hN (by simpa using hl) (fun i f' hf => hx (i + 1) f' hf)
    refine ⟨(a, b), ⟨_, _, ?_, h1, g1⟩, ?_⟩
    · show (cs.drop f.offset).take (d.sz + e.sz) = _
      rw [List.take_add, List.drop_drop]
    · simp only [List.map_cons, Rows.uptoBulkAll]
      omega
theorem struct {N : Nat} {α : Type} {t : TypeId} {fs : Array Field} {d : Kd α} {sz : α → Nat} (ht : Try.prog.underlying t = some (.struct fs)) (hc : Try.prog.cellsOf t = d.sz) (R : ReadsAt N 0 fs.toList d sz) : Reads (N + 1) t d (fun a => sz a + 1) := by
  intro H enc w spare held fuel cs x hN h
  obtain ⟨xs, n, hfn, rfl, hl, hlen, hx⟩ := DataW.trod_struct ht h
  obtain ⟨a, h1, h2⟩ := R enc w spare held n cs xs (by omega) (by rw [hlen, Array.length_toList]) (fun i f hf => hx i f (by rwa [Array.getElem?_toList] at hf))
  rw [List.drop_zero, List.take_of_length_le (by rw [hl, hc]; exact Nat.le_refl _)] at h1
  refine ⟨a, h1, ?_⟩
  simp only [Rows.uptoBulk]
  omega
theorem iso {N : Nat} {α β : Type} {t : TypeId} {d : Kd α} {sz : α → Nat} (R : Reads N t d sz) (f : β → α) (g : α → β) (hfg : ∀ a, f (g a) = a) : Reads N t (Kd.iso d f) (fun b => sz (f b)) := by
  intro H enc w spare held fuel cs x hN h
  obtain ⟨a, h1, h2⟩ := R enc w spare held fuel cs x hN h
  refine ⟨g a, ?_, ?_⟩
  · show d.K w (f (g a)) cs
    rw [hfg]; exact h1
  · show sz (f (g a)) ≤ _
    rw [hfg]; exact h2
theorem Reads.less {N M : Nat} {α : Type} {t : TypeId} {d : Kd α} {sz : α → Nat} (R : Reads N t d sz) (h : M ≤ N) : Reads M t d sz := fun enc w spare held fuel cs x hM hx => R enc w spare held fuel cs x (Nat.le_trans hM h) hx
theorem Reads.imp {N : Nat} {α : Type} {t : TypeId} {d d' : Kd α} {sz sz' : α → Nat} (R : Reads N t d sz) (hk : ∀ w a cs, d.K w a cs → d'.K w a cs) (h : ∀ a, sz' a ≤ sz a) : Reads N t d' sz' := fun enc w spare held fuel cs x hN hx => by
  obtain ⟨a, h1, h2⟩ := R enc w spare held fuel cs x hN hx
  exact ⟨a, hk _ _ _ h1, Nat.le_trans (h a) h2⟩
/-- A parameter. -/
theorem Reads.param {α : Type} {t : TypeId} {d : Kd α} {sz : α → Nat} (R : ∀ N, Reads N t d sz) {H : Type} {enc : TypeId × Value → H} {w : World} {spare : Nat → Bool} {held : Bool} {v : Value} {x : DataW H} {ps : List MemPlace}
    (h : DataW.Trod enc Try.prog w 0 spare held t v x ps) : ∃ a : α, d.K w a v.cells.toList ∧ sz a ≤ Rows.uptoBulk x ∧ True := by
  obtain ⟨fuel, hf⟩ := h
  obtain ⟨a, h1, h2⟩ := R fuel enc w spare held fuel _ _ (Nat.le_refl _) hf
  exact ⟨a, h1, h2, trivial⟩
end Go.Proofs.Ytnkbgimihikhoaa.Rdb
namespace Go.Proofs.Ytnkbgimihikhoaa.PVt
open Go.RowKit Go.Proofs.YtnkbgimihikhoaaW.PrintWords Go.Proofs.YtnkbgimihikhoaaW.PrintLast Go.Proofs.YtnkbgimihikhoaaW.PrintMore
set_option linter.unusedVariables false
def bulkA (p : S99) : Nat := (p.f0.size + 1) + (p.f1.size + 1) + 1
mutual
/-- A tree's bulk, at least. -/
def bulkT : S27 → Nat
  | ⟨_, t, u, a, l⟩ => 3 + ((t.size + 1) + ((u.size + 1) + (((a.map bulkA).sum + 1) + (bulkTs l + 1)))) + 1
def bulkTs : List S27 → Nat
  | [] => 0
  | x :: l => bulkT x + bulkTs l
end
theorem bulkT_eq (x : S27) : bulkT x = 3 + ((x.f1.size + 1) + ((x.f2.size + 1) + (((x.f3.map bulkA).sum + 1) + (bulkTs x.f4 + 1)))) + 1 := by cases x; simp [bulkT]
theorem bulkTs_sum : ∀ l : List S27, (l.map bulkT).sum = bulkTs l
  | [] => by simp [bulkTs]
  | x :: l => by simp [bulkTs, bulkTs_sum l]
mutual
theorem bulk_sz : ∀ x : S27, szT x ≤ bulkT x
  | ⟨k, t, u, a, l⟩ => by have := bulk_szs l; rw [szT, bulkT]; omega
theorem bulk_szs : ∀ l : List S27, szTs l ≤ bulkTs l
  | [] => by simp [szTs, bulkTs]
  | x :: l => by have h1 := bulk_sz x; have h2 := bulk_szs l; rw [szTs, bulkTs]; omega
end
theorem bulkA_mem {a : List S99} : ∀ p ∈ a, bulkA p ≤ (a.map bulkA).sum := by
  induction a with
  | nil => intro p hp; cases hp
  | cons q a ih =>
    intro p hp
    rw [List.map_cons, List.sum_cons]
    rcases List.mem_cons.1 hp with rfl | hp
    · omega
    · have := ih p hp; omega
theorem bulkA_len (a : List S99) : a.length ≤ (a.map bulkA).sum := by
  induction a with
  | nil => simp
  | cons q a ih => rw [List.map_cons, List.sum_cons, List.length_cons]; have : 1 ≤ bulkA q := by unfold bulkA; omega
                   omega
theorem bulkTs_len (l : List S27) : l.length ≤ bulkTs l := Nat.le_trans (szTs_len l) (bulk_szs l)
theorem reach_b : reachBytes = 140737488351232 := by decide
mutual
theorem bulk_fit : ∀ x : S27, bulkT x ≤ 1048576 → fitT x
  | ⟨k, t, u, a, l⟩, h => by
    rw [bulkT] at h
    have h1 := bulkA_len a
    have h2 := bulkTs_len l
    have h3 := bulk_fits l (by omega)
    rw [fitT, reach_b]
    refine ⟨by omega, by omega, ⟨by omega, fun p hp => ?_⟩, by omega, h3⟩
    have h4 := bulkA_mem p hp
    have h5 : bulkA p = (p.f0.size + 1) + (p.f1.size + 1) + 1 := rfl
    unfold fitA
    rw [reach_b]
    omega
theorem bulk_fits : ∀ l : List S27, bulkTs l ≤ 1048576 → fitTs l
  | [], _ => by simp [fitTs]
  | x :: l, h => by
    rw [bulkTs] at h
    rw [fitTs]
    exact ⟨bulk_fit x (by omega), bulk_fits l (by omega)⟩
end
theorem bulk23 (N : Nat) : Rdb.Reads N 23 k23 (fun _ => 3) :=
  Rdb.Reads.imp (Rdb.Reads.less (Rdb.iso (Rdb.struct (N := N) Try.underlying23 (by kernel_rfl) (Rdb.more (by kernel_rfl) (Rdb.int Try.underlying3) (Rdb.last (by kernel_rfl) (Rdb.int Try.underlying3)))) (fun x : S23 => (x.f0, x.f1)) (fun p => ⟨p.1, p.2⟩) (fun _ => rfl)) (Nat.le_succ N)) (fun _ _ _ h => h) (fun _ => Nat.le_refl _)
theorem bulk99 (N : Nat) : Rdb.Reads N 99 k99 bulkA :=
  Rdb.Reads.imp (Rdb.Reads.less (Rdb.iso (Rdb.struct (N := N) Try.underlying99 (by kernel_rfl) (Rdb.more (by kernel_rfl) (Rdb.string Try.underlying9) (Rdb.last (by kernel_rfl) (Rdb.string Try.underlying9)))) (fun x : S99 => (x.f0, x.f1)) (fun p => ⟨p.1, p.2⟩) (fun _ => rfl)) (Nat.le_succ N)) (fun _ _ _ h => h) (fun a => Nat.le_refl _)
theorem bulk24 (N : Nat) : Rdb.Reads N 24 (Kd.slice 99 k99) (fun xs => (xs.map bulkA).sum + 1) := Rdb.Reads.less (Rdb.slice (N := N) Try.underlying24 (by kernel_rfl) (bulk99 N)) (Nat.le_succ N)
theorem bulk_step (N : Nat) (ih : Rdb.Reads N 27 k27 bulkT) : Rdb.Reads (N + 2) 27 k27 bulkT :=
  Rdb.Reads.imp (Rdb.iso (Rdb.struct (N := N + 1) Try.underlying27 (by kernel_rfl) (Rdb.more (by kernel_rfl) (bulk23 _) (Rdb.more (by kernel_rfl) (Rdb.string Try.underlying9) (Rdb.more (by kernel_rfl) (Rdb.string Try.underlying9) (Rdb.more (by kernel_rfl) (bulk24 _) (Rdb.last (by kernel_rfl) (Rdb.slice Try.underlying25 (by kernel_rfl) ih))))))) (fun x : S27 => (x.f0, x.f1, x.f2, x.f3, x.f4)) (fun p => ⟨p.1, p.2.1, p.2.2.1, p.2.2.2.1, p.2.2.2.2⟩) (fun _ => rfl)) (fun _ _ _ h => fold27 h) (fun a => by
    rw [bulkT_eq, ← bulkTs_sum]
    exact Nat.le_refl _)
theorem bulk27 : ∀ N, Rdb.Reads N 27 k27 bulkT
  | 0 => fun enc w spare held fuel cs x h0 hx => by
    obtain ⟨_, n, hn, _⟩ := DataW.trod_struct Try.underlying27 hx
    omega
  | 1 => Rdb.Reads.less (bulk_step 0 (bulk27 0)) (by omega)
  | N + 2 => bulk_step N (bulk27 N)
end Go.Proofs.Ytnkbgimihikhoaa.PVt
