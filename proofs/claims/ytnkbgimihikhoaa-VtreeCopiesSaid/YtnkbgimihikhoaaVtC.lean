/- How deep a tree is; its nodes' keys. -/
import Derived.RangeFuncNested
import Derived.RangeFuncBound
import Derived.RangeFuncCalls
import Derived.RangeFuncLeaves
import Derived.RangeFuncBox
import Derived.Shelf.Abstract
import Derived.Shelf.RegionOpen
import Derived.WalkKit
import Derived.OwnWalkIn
import Derived.TacticsInMore
import Derived.LoopNIn
import Derived.LoopIn
import Derived.Maps.OwnIn
import Derived.Test.YtnkbgimihikhoaaVtB
namespace Go.Proofs.Ytnkbgimihikhoaa.PVt
open Go.RowKit Go.Shelf Go.Proofs.YtnkbgimihikhoaaW.PrintWords Go.Proofs.YtnkbgimihikhoaaW.PrintLast Go.Proofs.YtnkbgimihikhoaaW.PrintMore
attribute [local go_sem] Oper.semAt_some max2_int min2_int max_two min_two
set_option linter.unusedVariables false
set_option linter.unusedSimpArgs false
/-- All blocks of U but those of T lie as they lay. -/
structure KeptT (T : Nat → Prop) (U W : World) : Prop where
  size : U.heap.size ≤ W.heap.size
  block : ∀ i, i < U.heap.size → ¬ T i → W.heap[i]? = U.heap[i]?
theorem KeptT.refl (T : Nat → Prop) (U : World) : KeptT T U U := ⟨Nat.le_refl _, fun _ _ _ => rfl⟩
theorem KeptT.on {T : Nat → Prop} {U W W' : World} (h : KeptT T U W) (hb : Below W.heap.size W W') : KeptT T U W' := ⟨Nat.le_trans h.size hb.size, fun i hi hn => (hb.block i (Nat.lt_of_lt_of_le hi h.size)).trans (h.block i hi hn)⟩
theorem KeptT.set {T : Nat → Prop} {b o : Nat} {U W : World} (h : KeptT T U W) (v : Value) (hb : T b) : KeptT T U (W.setCell ⟨b, o, none⟩ v) := ⟨Nat.le_trans h.size (Nat.le_of_eq (Mem.set_size _ _ _).symm), fun i hi hn => (Mem.set_other _ _ _ _ (fun e => hn (by cases e; exact hb))).trans (h.block i hi hn)⟩
theorem KeptT.far {T : Nat → Prop} {b o : Nat} {U W : World} (h : KeptT T U W) (v : Value) (hb : U.heap.size ≤ b) : KeptT T U (W.setCell ⟨b, o, none⟩ v) := ⟨Nat.le_trans h.size (Nat.le_of_eq (Mem.set_size _ _ _).symm), fun i hi hn => (Mem.set_other _ _ _ _ (by show i ≠ b; omega)).trans (h.block i hi hn)⟩
theorem blk_lt' {W : World} {k : Nat} {o : Obj} (h : W.heap[k]? = some o) : k < W.heap.size := (Array.getElem?_eq_some_iff.1 h).1
theorem KeptT.cells {T : Nat → Prop} {k : Nat} {U W : World} {o : Obj} (h : KeptT T U W) (hu : U.heap[k]? = some o) (hn : ¬ T k) : W.heap[k]? = some o := (h.block k (blk_lt' hu) hn).trans hu
/-- What a loop keeps beside its own cells. -/
def LK (T : Nat → Prop) (n0 : Nat) (Wb U W : World) : Prop := KeptT T U W ∧ Below n0 Wb W
theorem LK_own {β : Type} {T : Nat → Prop} {n0 : Nat} {Wb U : World} (h1 : n0 ≤ Wb.heap.size) (h2 : n0 ≤ U.heap.size) : OwnFrom U.heap.size (fun (_ : β) W => LK T n0 Wb U W) := fun s X Y row hs hg hr =>
  ⟨⟨Nat.le_trans hs.1.size hg.size, fun i hi hn => (hg.block i (Nat.lt_of_lt_of_le hi hs.1.size) (fun e' => by have := (hr i e'.symm).1; omega)).trans (hs.1.block i hi hn)⟩, ownFrom_below h1 h2 () X Y row hs.2 hg hr⟩
theorem cells_own {β : Type} (B : Nat) (t : TypeId) (f : β → Array Value) : Own (fun s W => W.heap[B]? = some (.cells (f s) t (0, 0))) := fun s X Y row hs hg hrow =>
  (hg.block B (blk_lt' hs) (fun e' => by obtain ⟨o, ho, hc⟩ := hrow B e'.symm; rw [hs] at ho; cases ho; cases hc)).trans hs
/-! ### How deep a tree is -/
def maxD (l : List (Nat × S27)) : Nat := l.foldl (fun m p => max m (p.1 + 1)) 0
theorem maxD_snoc (l : List (Nat × S27)) (p : Nat × S27) : maxD (l ++ [p]) = max (maxD l) (p.1 + 1) := by simp [maxD]
set_option maxHeartbeats 8000000 in
set_option maxRecDepth 100000 in
theorem depth_calls (w : World) (x : S27) (A4 : Option Addr) (c4 : Nat) (A5 : Option Addr) (c5 : Nat) (hd : szT x ≤ 1099511627776)
    (hT : TK w w.heap.size x [.int .i64 x.f0.f0, .int .i64 x.f0.f1, .string x.f1, .string x.f2, .slice A4 x.f3.length c4, .slice A5 x.f4.length c5]) :
    Calls Try.prog 33 #[.agg #[.int .i64 x.f0.f0, .int .i64 x.f0.f1, .string x.f1, .string x.f2, .slice A4 x.f3.length c4, .slice A5 x.f4.length c5]] w fun e w' => e = .returned (.int .i64 ((maxD (flatD 0 x) : Nat) : Int)) ∧ Below w.heap.size w w' := by
  have HT := Aside0.mk hT
  clear hT
  refine (callsIn_wide (n := 3)).1 ?_
  refine callsIn_of_wp_marks Try.func33 rfl trivial ?_ rfl
  simp only [Try.ntmps33, List.size_toArray, List.length_cons, List.length_nil, Nat.reduceAdd, Nat.reduceSub, Array.replicate_succ, Array.replicate_zero, List.push_toArray, List.append_toArray, List.nil_append, List.cons_append]
  gi_wp2_with (fail)
  refine ⟨trivial, ?_⟩
  refine (callsIn_wide.2 (nodes_calls _ _ _ _ _ _ _)).mono ?_
  rintro e w1 ⟨rfl, rfl⟩
  gi_wp2_with (fail)
  have hBU : Below w.heap.size w (((w.alloc (.cells #[.int .i64 x.f0.f0, .int .i64 x.f0.f1, .string x.f1, .string x.f2, .slice A4 x.f3.length c4, .slice A5 x.f4.length c5] 27)).alloc (.cells #[.int .i64 0] 3)).alloc (.cells #[.int .i64 x.f0.f0, .int .i64 x.f0.f1, .string x.f1, .string x.f2, .slice A4 x.f3.length c4, .slice A5 x.f4.length c5] 27)) := below_alloc (below_alloc (below_alloc (Below.refl _ _) _) _) _
  have hB3 : (((w.alloc (.cells #[.int .i64 x.f0.f0, .int .i64 x.f0.f1, .string x.f1, .string x.f2, .slice A4 x.f3.length c4, .slice A5 x.f4.length c5] 27)).alloc (.cells #[.int .i64 0] 3)).alloc (.cells #[.int .i64 x.f0.f0, .int .i64 x.f0.f1, .string x.f1, .string x.f2, .slice A4 x.f3.length c4, .slice A5 x.f4.length c5] 27)).heap[w.heap.size + 1]? = some (.cells #[.int .i64 0] 3 (0, 0)) := Mem.alloc_old (Mem.alloc_new_at _ _ _ (by rw [Mem.alloc_size])) _
  have hBX : (((w.alloc (.cells #[.int .i64 x.f0.f0, .int .i64 x.f0.f1, .string x.f1, .string x.f2, .slice A4 x.f3.length c4, .slice A5 x.f4.length c5] 27)).alloc (.cells #[.int .i64 0] 3)).alloc (.cells #[.int .i64 x.f0.f0, .int .i64 x.f0.f1, .string x.f1, .string x.f2, .slice A4 x.f3.length c4, .slice A5 x.f4.length c5] 27)).heap[w.heap.size + 1 + 1]? = some (.cells #[.int .i64 x.f0.f0, .int .i64 x.f0.f1, .string x.f1, .string x.f2, .slice A4 x.f3.length c4, .slice A5 x.f4.length c5] 27 (0, 0)) := Mem.alloc_new_at _ _ _ (by rw [Mem.alloc_size, Mem.alloc_size])
  generalize ((w.alloc (.cells #[.int .i64 x.f0.f0, .int .i64 x.f0.f1, .string x.f1, .string x.f2, .slice A4 x.f3.length c4, .slice A5 x.f4.length c5] 27)).alloc (.cells #[.int .i64 0] 3)).alloc (.cells #[.int .i64 x.f0.f0, .int .i64 x.f0.f1, .string x.f1, .string x.f2, .slice A4 x.f3.length c4, .slice A5 x.f4.length c5] 27) = U at *
  refine wpIn_rangeFunc_ownH (F := Fence.wide) (n := 3) rfl (by decide) (gf := 65) (lb := #[.pointer (some ⟨w.heap.size + 1 + 1, 0, none⟩)]) rfl trivial (enters_of Try.func65 (by kernel_rfl) rfl)
    (nodes_stops (T := fun _ => False) hd HT.out (fun i hi => hBU.block i hi) hBU.size (fun _ h => h.elim) hBX) Kw.trans (fun W l o o' hl h1 h2 _ => Kw.put W l o o' (Nat.le_trans hBU.size hl) h1 h2) (Below.refl _ _) (fun _ => rfl)
    (fun pre W => W.heap[w.heap.size + 1]? = some (.cells #[.int .i64 ((maxD (pre.map pl) : Nat) : Int)] 3 (0, 0)) ∧ LK (fun i => i = w.heap.size + 1) w.heap.size w U W)
    (fun _ _ _ => False)
    (OwnFrom.and (Own.from (cells_own _ 3 (fun (pre : List (Nd w w.heap.size)) => #[.int .i64 ((maxD (pre.map pl) : Nat) : Int)])) _) (LK_own (Nat.le_refl _) hBU.size))
    (fun _ _ _ _ _ hs _ _ => hs)
    ⟨hB3, KeptT.refl _ _, hBU⟩
    (fun y a' _ => a' = { tmps := #[.agg #[.int .i64 x.f0.f0, .int .i64 x.f0.f1, .string x.f1, .string x.f2, .slice A4 x.f3.length c4, .slice A5 x.f4.length c5], .pointer (some ⟨w.heap.size, 0, none⟩), .int .i64 0, .pointer (some ⟨w.heap.size + 1, 0, none⟩), .int .i64 (y.d : Int), .agg #[.int .i64 x.f0.f0, .int .i64 x.f0.f1, .string x.f1, .string x.f2, .slice A4 x.f3.length c4, .slice A5 x.f4.length c5], .func (.func 65) #[] #[.pointer (some ⟨w.heap.size + 1 + 1, 0, none⟩)], .int .i64 (y.d : Int), .agg y.cs.toArray, undef, undef, undef, undef, undef], defers := [] })
    (fun y a' _ X Y row hs hg hr => hs)
    ?assign ?body ?done ?stop
  case assign =>
    rintro l pre y W K hI hK
    dsimp only [encN]
    gi_wp2
    exact hK _ _ ((KeepsOthers.refl _).from _) (Kw.refl _ _ _) hI rfl
  case body =>
    rintro l pre y a' W hl ⟨r, hr⟩ ⟨h3, hK, hB⟩ rfl hlt
    have hyd := y.hd
    have c3 := Mem.cell_of h3 0
    have f3 := Mem.free_of h3 0
    have hw_ := wrap_next (d := y.d) (m := 0) hyd
    have HI := Aside0.mk (And.intro h3 (And.intro hK hB))
    clear h3 hK hB hr hyd
    gi_wp2_with (fail)
    all_goals
      refine ⟨(KeepsOthers.setCell _ _ _).from _, Kw.box HI.out.1 (by decide) _ (Nat.le_succ _), ?_, HI.out.2.1.set _ rfl, HI.out.2.2.setCell (p := ⟨w.heap.size + 1, 0, none⟩) (Nat.le_succ _) _⟩
      rw [Mem.set_heap HI.out.1 0 _, List.map_append, List.map_singleton, maxD_snoc]
      refine congrArg (fun z => some (Obj.cells #[Value.int .i64 z] 3 (0, 0))) ?_
      show _ = ((max (maxD (pre.map pl)) (y.d + 1) : Nat) : Int)
      omega
  case done =>
    rintro D ys W hD hys ⟨h3, hK, hB⟩ hKD
    have c3 := Mem.cell_of h3 0
    rw [hys] at c3
    clear hys
    gi_wp2
    refine ⟨by simp, .inl ⟨_, _, rfl, run_takeDeferred hKD, ?_⟩⟩
    exact ⟨_, results_tmp rfl _ _ _, rfl, hB.trans (belowK_b (w := U) hBU.size W D _ _ hD hKD rfl rfl)⟩
  case stop =>
    rintro D c pre W _ _ h _
    exact h.elim
/-! ### Its nodes' keys -/
section
variable {P : Program} {ops : Array Oper} {rest : List Oper} {o : Oper} {a : Act} {Q : Exit → Act → World → Prop} {α : Type} {F : Fence} {nF : Nat}
/-- An append to a row of one's own, inside a fence. -/
theorem R_append_in (d : Kd α) {W : World} (base : Nat) (hgd : o.guard = none) (s x : Operand) (t e : TypeId) (z : Value) (bytes : Nat)
    (ho : o.op = .call { callee := .builtin .append, args := #[s, x], argTypes := #[t, t] })
    (ht : P.underlying t = some (.slice e)) (hinfo : (P.info? e).map (fun i => (i.zero, i.size, i.bytes)) = some (some z, d.sz, bytes)) (hz : z.cells.size = d.sz) (hs0 : 0 < d.sz) (hb0 : 0 < bytes)
    (v : Value) (xs : List α) (p : α) (cs : List Value) (ok okp : Nat → Prop) (hs : a.eval s = v) (hx : a.eval x = .slice (some ⟨W.heap.size, 0, none⟩) 1 1) (hp : d.M W base okp p cs) (hokp : ∀ k, okp k → ok k ∧ some k ≠ v.ownBlock) (hfresh : ∀ k, W.heap.size ≤ k → ok k)
    (HO : d.R e W base ok v xs) (hbase : base ≤ W.heap.size) (hl : (xs.length + 1) * bytes ≤ 140737488355328)
    (h : ∀ v1 w1, d.R e w1 base ok v1 (xs ++ [p]) → W.grownBy w1 v.ownBlock → wpListIn F nF P ops Q rest (a.put o.dst v1) w1) :
    wpListIn F nF P ops Q (o :: rest) a (W.alloc (.cells cs.toArray e)) := by
  obtain ⟨h0, inner, hown, hr⟩ := HO
  obtain ⟨i0, hi, hzz⟩ := Option.map_eq_some_iff.1 hinfo
  simp only [Prod.mk.injEq] at hzz
  obtain ⟨hz0, hz1, hz2⟩ := hzz
  have hlen : xs.length + 1 ≤ 140737488355328 := Nat.le_trans (Nat.le_mul_of_pos_right _ hb0) hl
  have hys := d.K_len (d.K_of_M hp)
  refine Go.wpListIn_append_own_at (w := W.alloc (.cells cs.toArray e)) hgd s x t ho base e i0 z d.sz bytes ht hi hz0 hz1 hz2 hz hs0 v xs.length inner hs (hown.alloc _) ⟨W.heap.size, 0, none⟩ 1 1 cs hx (by rw [hys]; simp)
    (by simpa using World.news_of_block (cs := cs.toArray) (t := e) (fr := (0, 0)) (heap_alloc_new W (.cells cs.toArray e))) (d.K_one (d.K_of_M hp)) (by simp only [maxLen]; omega) hl (by simp; omega) ?_
  intro v1 w1 hown1 hg _ hat
  have hg1 := World.grownBy.trans (World.grownBy_alloc W _ _) hg
  refine h v1 w1 (Kd.R_appended h0 hr hp hokp hfresh hown1 hg1 ?_) hg1
  rcases hat with hat | hat
  · exact .inl hat
  · exact .inr ⟨_, hat, by simp⟩
end
def keysP (l : List (Nat × S27)) : List S23 := l.map fun p => p.2.f0
theorem R_of_own_grown {α : Type} {d : Kd α} {e B : Nat} {base : Nat} {X Y : World} {v : Value} {xs : List α} {row : Option Nat} (h : d.R e X base (fun _ => True) v xs) (hg : X.grownBy Y row) (hr : ∀ r, row = some r → B ≤ r ∧ ∃ o : Obj, X.heap[r]? = some o ∧ o.isCells = false) : d.R e Y base (fun _ => True) v xs :=
  Kd.R_mono (Kd.R_grown (Kd.R_bound h) hg (fun k hk e' => by obtain ⟨_, _, _, q, _, cells, hc⟩ := hk; obtain ⟨_, o, ho, hn⟩ := hr k e'.symm; rw [hc] at ho; cases ho; cases hn)) (fun _ _ => trivial)
/-- Between two rounds: the keys that have come. -/
def KeysI (w0 : World) (n0 b3 : Nat) (Wb U : World) (pre : List (Nd w0 n0)) (W : World) : Prop :=
  (∃ v, W.heap[b3]? = some (.cells #[v] 48 (0, 0)) ∧ k23.R 23 W U.heap.size (fun _ => True) v (keysP (pre.map pl))) ∧ LK (fun i => i = b3) Wb.heap.size Wb U W
theorem KeysI_own {w0 : World} {n0 b3 : Nat} {Wb U : World} (h2 : Wb.heap.size ≤ U.heap.size) : OwnFrom U.heap.size (KeysI w0 n0 b3 Wb U) := fun s X Y row hs hg hr => by
  obtain ⟨⟨v, hb, hR⟩, hL⟩ := hs
  exact ⟨⟨v, (Own.from (cells_own b3 48 (fun (_ : Unit) => #[v])) U.heap.size) () X Y row hb hg hr, R_of_own_grown hR hg hr⟩, LK_own (β := Unit) (Nat.le_refl _) h2 () X Y row hL hg hr⟩
theorem LK.grown {T : Nat → Prop} {n0 : Nat} {Wb U W W' : World} {row : Option Nat} (h : LK T n0 Wb U W) (hg : W.grownBy W' row) (hr : ∀ k, row = some k → U.heap.size ≤ k) (hn : n0 ≤ U.heap.size) : LK T n0 Wb U W' :=
  ⟨⟨Nat.le_trans h.1.size hg.size, fun i hi hT => (hg.block i (Nat.lt_of_lt_of_le hi h.1.size) (fun e => by have := hr i e.symm; omega)).trans (h.1.block i hi hT)⟩, h.2.grown hg (Nat.le_trans hn h.1.size) (fun k e => Nat.le_trans hn (hr k e))⟩
theorem LK.on {T : Nat → Prop} {n0 : Nat} {Wb U W W' : World} (h : LK T n0 Wb U W) (hb : Below W.heap.size W W') (hn : n0 ≤ U.heap.size) : LK T n0 Wb U W' := ⟨h.1.on hb, h.2.trans (hb.mono (Nat.le_trans hn h.1.size))⟩
theorem LK.set {T : Nat → Prop} {n0 b o : Nat} {Wb U W : World} (h : LK T n0 Wb U W) (v : Value) (hT : T b) (hn : n0 ≤ b) : LK T n0 Wb U (W.setCell ⟨b, o, none⟩ v) := ⟨h.1.set v hT, h.2.setCell (p := ⟨b, o, none⟩) hn _⟩
set_option maxHeartbeats 8000000 in
set_option maxRecDepth 100000 in
theorem keys_calls (w : World) (x : S27) (A4 : Option Addr) (c4 : Nat) (A5 : Option Addr) (c5 : Nat) (hd : szT x ≤ 1099511627776)
    (hT : TK w w.heap.size x [.int .i64 x.f0.f0, .int .i64 x.f0.f1, .string x.f1, .string x.f2, .slice A4 x.f3.length c4, .slice A5 x.f4.length c5]) :
    Calls Try.prog 22 #[.agg #[.int .i64 x.f0.f0, .int .i64 x.f0.f1, .string x.f1, .string x.f2, .slice A4 x.f3.length c4, .slice A5 x.f4.length c5]] w fun e w' => ∃ v, e = .returned v ∧ k23.R 23 w' w.heap.size (fun _ => True) v (keysP (flatD 0 x)) ∧ Below w.heap.size w w' := by
  have HT := Aside0.mk hT
  clear hT
  refine (callsIn_wide (n := 3)).1 ?_
  refine callsIn_of_wp_marks Try.func22 rfl trivial ?_ rfl
  simp only [Try.ntmps22, List.size_toArray, List.length_cons, List.length_nil, Nat.reduceAdd, Nat.reduceSub, Array.replicate_succ, Array.replicate_zero, List.push_toArray, List.append_toArray, List.nil_append, List.cons_append]
  gi_wp2_with (fail)
  refine ⟨trivial, ?_⟩
  refine (callsIn_wide.2 (nodes_calls _ _ _ _ _ _ _)).mono ?_
  rintro e w1 ⟨rfl, rfl⟩
  gi_wp2_with (fail)
  have hBU : Below w.heap.size w (((w.alloc (.cells #[.int .i64 x.f0.f0, .int .i64 x.f0.f1, .string x.f1, .string x.f2, .slice A4 x.f3.length c4, .slice A5 x.f4.length c5] 27)).alloc (.cells #[.slice none 0 0] 48)).alloc (.cells #[.int .i64 x.f0.f0, .int .i64 x.f0.f1, .string x.f1, .string x.f2, .slice A4 x.f3.length c4, .slice A5 x.f4.length c5] 27)) := below_alloc (below_alloc (below_alloc (Below.refl _ _) _) _) _
  have hB3 : (((w.alloc (.cells #[.int .i64 x.f0.f0, .int .i64 x.f0.f1, .string x.f1, .string x.f2, .slice A4 x.f3.length c4, .slice A5 x.f4.length c5] 27)).alloc (.cells #[.slice none 0 0] 48)).alloc (.cells #[.int .i64 x.f0.f0, .int .i64 x.f0.f1, .string x.f1, .string x.f2, .slice A4 x.f3.length c4, .slice A5 x.f4.length c5] 27)).heap[w.heap.size + 1]? = some (.cells #[.slice none 0 0] 48 (0, 0)) := Mem.alloc_old (Mem.alloc_new_at _ _ _ (by rw [Mem.alloc_size])) _
  have hBX : (((w.alloc (.cells #[.int .i64 x.f0.f0, .int .i64 x.f0.f1, .string x.f1, .string x.f2, .slice A4 x.f3.length c4, .slice A5 x.f4.length c5] 27)).alloc (.cells #[.slice none 0 0] 48)).alloc (.cells #[.int .i64 x.f0.f0, .int .i64 x.f0.f1, .string x.f1, .string x.f2, .slice A4 x.f3.length c4, .slice A5 x.f4.length c5] 27)).heap[w.heap.size + 1 + 1]? = some (.cells #[.int .i64 x.f0.f0, .int .i64 x.f0.f1, .string x.f1, .string x.f2, .slice A4 x.f3.length c4, .slice A5 x.f4.length c5] 27 (0, 0)) := Mem.alloc_new_at _ _ _ (by rw [Mem.alloc_size, Mem.alloc_size])
  generalize ((w.alloc (.cells #[.int .i64 x.f0.f0, .int .i64 x.f0.f1, .string x.f1, .string x.f2, .slice A4 x.f3.length c4, .slice A5 x.f4.length c5] 27)).alloc (.cells #[.slice none 0 0] 48)).alloc (.cells #[.int .i64 x.f0.f0, .int .i64 x.f0.f1, .string x.f1, .string x.f2, .slice A4 x.f3.length c4, .slice A5 x.f4.length c5] 27) = U at *
  refine wpIn_rangeFunc_ownH (F := Fence.wide) (n := 3) rfl (by decide) (gf := 65) (lb := #[.pointer (some ⟨w.heap.size + 1 + 1, 0, none⟩)]) rfl trivial (enters_of Try.func65 (by kernel_rfl) rfl)
    (nodes_stops (T := fun _ => False) hd HT.out (fun i hi => hBU.block i hi) hBU.size (fun _ h => h.elim) hBX) Kw.trans (fun W l o o' hl h1 h2 _ => Kw.put W l o o' (Nat.le_trans hBU.size hl) h1 h2) (Below.refl _ _) (fun _ => rfl)
    (KeysI w w.heap.size (w.heap.size + 1) w U)
    (fun _ _ _ => False)
    (KeysI_own hBU.size)
    (fun _ _ _ _ _ hs _ _ => hs)
    ⟨⟨_, hB3, Kd.R_nil _ _ _ _ _⟩, KeptT.refl _ _, hBU⟩
    (fun y a' Wr => ∃ Bx, U.heap.size ≤ Bx ∧ Wr.heap[Bx]? = some (.cells y.cs.toArray 27 (0, 0)) ∧ a' = { tmps := #[.agg #[.int .i64 x.f0.f0, .int .i64 x.f0.f1, .string x.f1, .string x.f2, .slice A4 x.f3.length c4, .slice A5 x.f4.length c5], .pointer (some ⟨w.heap.size, 0, none⟩), .slice none 0 0, .pointer (some ⟨w.heap.size + 1, 0, none⟩), undef, .pointer (some ⟨Bx, 0, none⟩), .agg #[.int .i64 x.f0.f0, .int .i64 x.f0.f1, .string x.f1, .string x.f2, .slice A4 x.f3.length c4, .slice A5 x.f4.length c5], .func (.func 65) #[] #[.pointer (some ⟨w.heap.size + 1 + 1, 0, none⟩)], .int .i64 (y.d : Int), .agg y.cs.toArray, undef, undef, undef, undef, undef, undef], defers := [] })
    (fun y a' _ X Y row hs hg hr => by obtain ⟨Bx, h1, h2, h3⟩ := hs; exact ⟨Bx, h1, cells_own Bx 27 (fun (_ : Unit) => y.cs.toArray) () X Y row h2 hg (fun r e => (hr r e).2), h3⟩)
    ?assign ?body ?done ?stop
  case assign =>
    rintro l pre ⟨yd, y, ycs, yok, yhd⟩ W K hI hK
    obtain ⟨B4, e4, B5, e5, rfl, _⟩ := yok.open
    dsimp only [encN]
    gi_wp2
    have hbl : Below W.heap.size W (W.alloc (.cells #[.int .i64 y.f0.f0, .int .i64 y.f0.f1, .string y.f1, .string y.f2, .slice B4 y.f3.length e4, .slice B5 y.f4.length e5] 27)) := below_alloc (Below.refl _ _) _
    obtain ⟨⟨v, hv, hR⟩, hL⟩ := hI
    exact hK _ _ ((KeepsOthers.alloc _ _).from _) (Kw.below hbl hL.2.size) ⟨⟨v, Mem.alloc_old hv _, Kd.R_below hR hbl⟩, hL.on hbl hBU.size⟩ ⟨W.heap.size, hL.1.size, Mem.alloc_new _ _, rfl⟩
  case body =>
    rintro l pre ⟨yd, y, ycs, yok, yhd⟩ a' W hl ⟨r, hr⟩ ⟨⟨v, hv, hR⟩, hL⟩ ⟨Bx, hBx, bX, rfl⟩ hlt
    obtain ⟨B4, e4, B5, e5, rfl, _⟩ := yok.open
    have c3 := Mem.cell_of hv 0
    have x0 := Mem.cell_of bX 0
    have x1 := Mem.cell_of bX 1
    have HL := Aside0.mk hL
    have HV := Aside0.mk hv
    have HR := Aside0.mk hR
    clear hL hv bX hr
    gi_wp2_with (gi_at_builtin; refine R_append_in k23 (W := W) U.heap.size rfl _ _ 48 23 _ 16 rfl Try.underlying48 info23 rfl (by decide) (by decide) v (keysP (pre.map pl)) y.f0 [.int .i64 y.f0.f0, .int .i64 y.f0.f1] (fun _ => True) (fun _ => False) rfl rfl (k23_mkM _ _ _ _) (fun _ h => h.elim) (fun _ _ => trivial) HR.out HL.out.1.size ?len ?_; (case len => unfold keysP; rw [List.length_map, List.length_map]; omega); intro v1 w1 hR1 hg1; obtain ⟨A1, c1, rfl⟩ := Kd.R_slice hR1; have HR1 := Aside0.mk hR1; have HG1 := Aside0.mk hg1; have HV1 : Aside0 (w1.heap[w.heap.size + 1]? = some (.cells #[v] 48 (0, 0))) := ⟨(hg1.block _ (blk_lt' HV.out) (Kd.R_ne HR.out HV.out (by decide))).trans HV.out⟩; clear hR1 hg1 c3 x0 x1; have c3 := Mem.cell_of HV1.out 0; have f3 := Mem.free_of HV1.out 0)
    have hty := Kd.R_typed HR.out
    have hba := Kd.R_base HR.out
    refine ⟨((KeepsOthers.of_grownBy HG1.out (fun j o e ho => by obtain ⟨c_, hc_⟩ := hty j e; rw [hc_] at ho; cases ho; rfl)).trans (KeepsOthers.setCell _ _ _)).from _,
      (Kw.grown HG1.out (fun k e => ⟨Nat.le_trans hBU.size (hba k e), fun c_ fr_ hc_ => by obtain ⟨c2_, h2_⟩ := hty k e; rw [h2_] at hc_; cases hc_⟩) HL.out.2.size).trans (Kw.box HV1.out (by decide) _ (Nat.le_succ _)),
      ⟨_, Mem.set_heap HV1.out 0 _, ?_⟩, (HL.out.grown HG1.out hba hBU.size).set _ rfl (Nat.le_succ _)⟩
    rw [List.map_append]
    have hk : keysP (pre.map pl ++ [pl (⟨yd, y, _, yok, yhd⟩ : Nd w w.heap.size)]) = keysP (pre.map pl) ++ [y.f0] := by unfold keysP; rw [List.map_append]; rfl
    rw [List.map_singleton, hk]
    have h_ := Kd.R_set HR1.out HV1.out (by decide) 0 (.slice A1 ((keysP (pre.map pl)).length + 1) c1)
    rw [List.length_append] at h_
    exact h_
  case done =>
    rintro D ys W hD hys ⟨⟨v, hv, hR⟩, hL⟩ hKD
    have c3 := Mem.cell_of hv 0
    rw [hys] at hR
    clear hys
    gi_wp2
    refine ⟨by simp, .inl ⟨_, _, rfl, run_takeDeferred hKD, ?_⟩⟩
    exact ⟨_, results_tmp rfl _ _ _, v, rfl, Kd.R_lower (Kd.R_mono (Kd.R_move (Kd.R_bound hR) (fun k hk => World.putObj_heap_other (by rintro rfl; obtain ⟨_, _, _, q, _, cells, hc⟩ := hk; rw [hKD] at hc; cases hc))) (fun _ _ => trivial)) hBU.size, hL.2.trans (belowK_b (w := U) hBU.size W D _ _ hD hKD rfl rfl)⟩
  case stop =>
    rintro D c pre W _ _ h _
    exact h.elim
end Go.Proofs.Ytnkbgimihikhoaa.PVt
