/- Trees in memory: their nodes in order; nodes as an iterator; Depth, Keys. -/
import Derived.Test.YtnkbgimihikhoaaWWords
import Derived.RangeFuncNested
import Derived.Test.YtnkbgimihikhoaaMVtPa
import Derived.RangeFuncBound
import Derived.RangeFuncCalls
import Derived.RangeFuncLeaves
import Derived.RangeFuncBox
import Derived.Shelf.Abstract
import Derived.Shelf.RegionOpen
import Derived.WalkKit
import Derived.OwnWalkIn
import Derived.TacticsInMore
import Derived.LoopNIn
import Derived.LoopIn
import Derived.Maps.OwnIn
namespace Go.Proofs.Ytnkbgimihikhoaa.Mem
open Go.RowKit Go.Proofs.YtnkbgimihikhoaaW.PrintWords
theorem cell_of {w : World} {b : Nat} {c : Array Value} {e : TypeId} {fr : Nat × Nat} (h : w.heap[b]? = some (.cells c e fr)) (o : Nat) : w.cell? ⟨b, o, none⟩ = c[o]? := by
  unfold World.cell?
  dsimp only
  rw [h]
  rfl
theorem free_of {w : World} {b : Nat} {c : Array Value} {e : TypeId} (h : w.heap[b]? = some (.cells c e (0, 0))) (o : Nat) : w.frozen? ⟨b, o, none⟩ = false := by
  unfold World.frozen?
  dsimp only
  rw [h]
  simp
theorem alloc_old {w : World} {b : Nat} {x : Obj} (h : w.heap[b]? = some x) (o : Obj) : (w.alloc o).heap[b]? = some x := by
  have hb := (Array.getElem?_eq_some_iff.1 h).1
  show (w.heap.push o)[b]? = _
  rw [Array.getElem?_push, if_neg (by omega)]
  exact h
theorem alloc_new (w : World) (o : Obj) : (w.alloc o).heap[w.heap.size]? = some o := by
  show (w.heap.push o)[w.heap.size]? = _
  simp
theorem alloc_new_at (w : World) (o : Obj) (n : Nat) (h : n = w.heap.size) : (w.alloc o).heap[n]? = some o := by subst h; exact alloc_new w o
theorem alloc_size (w : World) (o : Obj) : (w.alloc o).heap.size = w.heap.size + 1 := by
  show (w.heap.push o).size = _
  simp
theorem cell_alloc {w : World} {a : Addr} {v : Value} (h : w.cell? a = some v) (o : Obj) : (w.alloc o).cell? a = some v := by
  have hb : a.block < w.heap.size := World.block_lt_of_cell? w _ h
  unfold World.cell? at h ⊢
  have e : (w.alloc o).heap[a.block]? = w.heap[a.block]? := by
    show (w.heap.push o)[a.block]? = _
    rw [Array.getElem?_push, if_neg (by omega)]
  rw [e]
  exact h
theorem set_heap {w : World} {b : Nat} {c : Array Value} {e : TypeId} {fr : Nat × Nat} (h : w.heap[b]? = some (.cells c e fr)) (o : Nat) (v : Value) : (w.setCell ⟨b, o, none⟩ v).heap[b]? = some (.cells (c.setIfInBounds o v) e fr) := by
  unfold World.setCell
  dsimp only
  rw [Array.getElem?_modify, if_pos rfl, h]
  rfl
theorem set_other (w : World) (a : Addr) (v : Value) (b : Nat) (h : b ≠ a.block) : (w.setCell a v).heap[b]? = w.heap[b]? := Below.heap_setCell w a v b h
theorem set_size (w : World) (a : Addr) (v : Value) : (w.setCell a v).heap.size = w.heap.size := by
  unfold World.setCell
  simp
end Go.Proofs.Ytnkbgimihikhoaa.Mem
namespace Go.Proofs.Ytnkbgimihikhoaa.PVt
open Go.RowKit Go.Proofs.YtnkbgimihikhoaaW.PrintWords Go.Proofs.YtnkbgimihikhoaaW.PrintLast Go.Proofs.YtnkbgimihikhoaaW.PrintMore
set_option linter.unusedVariables false
mutual
/-- A tree's nodes in its order, each with how many are above it. -/
def flatD : Nat → S27 → List (Nat × S27)
  | d, ⟨k, t, x, a, l⟩ => (d, ⟨k, t, x, a, l⟩) :: flatDs (d + 1) l
def flatDs : Nat → List S27 → List (Nat × S27)
  | _, [] => []
  | d, x :: l => flatD d x ++ flatDs d l
end
mutual
/-- How many nodes there are. -/
def szT : S27 → Nat
  | ⟨_, _, _, _, l⟩ => 1 + szTs l
def szTs : List S27 → Nat
  | [] => 0
  | x :: l => szT x + szTs l
end
theorem flatD_eq (d : Nat) (x : S27) : flatD d x = (d, x) :: flatDs (d + 1) x.f4 := by cases x; simp [flatD]
theorem szT_eq (x : S27) : szT x = 1 + szTs x.f4 := by cases x; simp [szT]
theorem flatDs_append (d : Nat) : ∀ l m : List S27, flatDs d (l ++ m) = flatDs d l ++ flatDs d m
  | [], m => by simp [flatDs]
  | x :: l, m => by simp [flatDs, flatDs_append d l m]
theorem szTs_append : ∀ l m : List S27, szTs (l ++ m) = szTs l + szTs m
  | [], m => by simp [szTs]
  | x :: l, m => by simp [szTs, szTs_append l m]; omega
theorem take_snoc27 (l : List S27) {k : Nat} (h : k < l.length) : l.take (k + 1) = l.take k ++ [l.getD k z27] := by
  rw [List.take_add_one, List.getD_eq_getElem?_getD, List.getElem?_eq_getElem h]; rfl
theorem flatDs_snoc (d : Nat) (l : List S27) {k : Nat} (h : k < l.length) : flatDs d (l.take (k + 1)) = flatDs d (l.take k) ++ flatD d (l.getD k z27) := by
  rw [take_snoc27 l h, flatDs_append]; simp [flatDs]
theorem szTs_snoc (l : List S27) {k : Nat} (h : k < l.length) : szTs (l.take (k + 1)) = szTs (l.take k) + szT (l.getD k z27) := by
  rw [take_snoc27 l h, szTs_append]; simp [szTs]
theorem szTs_take (l : List S27) (k : Nat) : szTs (l.take k) ≤ szTs l := by
  have h := szTs_append (l.take k) (l.drop k)
  rw [List.take_append_drop] at h
  omega
theorem szT_kid (l : List S27) {k : Nat} (h : k < l.length) : szT (l.getD k z27) ≤ szTs l := by
  have h1 := szTs_snoc l h
  have h2 := szTs_take l (k + 1)
  omega
mutual
theorem flatD_length : ∀ (d : Nat) (x : S27), (flatD d x).length = szT x
  | d, ⟨k, t, x, a, l⟩ => by simp [flatD, szT, flatDs_length (d + 1) l]; omega
theorem flatDs_length : ∀ (d : Nat) (l : List S27), (flatDs d l).length = szTs l
  | _, [] => by simp [flatDs, szTs]
  | d, x :: l => by simp [flatDs, szTs, flatD_length d x, flatDs_length d l]
end
theorem szT_pos (x : S27) : 0 < szT x := by rw [szT_eq]; omega
theorem szTs_len : ∀ l : List S27, l.length ≤ szTs l
  | [] => by simp
  | x :: l => by have h1 := szT_pos x; have h2 := szTs_len l; simp [szTs]; omega
theorem flatDs_prefix (d : Nat) (l : List S27) (k : Nat) : flatDs d (l.take k) <+: flatDs d l := ⟨flatDs d (l.drop k), by rw [← flatDs_append, List.take_append_drop]⟩
/-! ### A tree that is read -/
/-- The node x lies as the cells cs, with all beneath it in blocks below n0. -/
def TK (w : World) (n0 : Nat) (x : S27) (cs : List Value) : Prop := Kd.FK k27 w (fun k => k < n0) x cs
theorem TK.low {w w1 : World} {n0 : Nat} {x : S27} {cs : List Value} (h : TK w n0 x cs) (hb : ∀ i, i < n0 → w1.heap[i]? = w.heap[i]?) : TK w1 n0 x cs := Kd.FK_step h (fun k hk _ => hb k hk)
theorem TK.open {w : World} {n0 : Nat} {x : S27} {cs : List Value} (h : TK w n0 x cs) : ∃ A4 c4 A5 c5, cs = [.int .i64 x.f0.f0, .int .i64 x.f0.f1, .string x.f1, .string x.f2, .slice A4 x.f3.length c4, .slice A5 x.f4.length c5] ∧ x.f3.length ≤ c4 ∧ Kd.F k99 w (fun k => k < n0) A4 x.f3.length x.f3 ∧ x.f4.length ≤ c5 ∧ Kd.F k27 w (fun k => k < n0) A5 x.f4.length x.f4 := k27_openF h
theorem heap27 : Kd.Heap k27 := Kd.heap_fix (fun d hd => Kd.heap_iso _ (Kd.heap_pair (Kd.heap_iso _ (Kd.heap_pair (Kd.heap_int _) (Kd.heap_int _))) (Kd.heap_pair Kd.heap_string (Kd.heap_pair Kd.heap_string (Kd.heap_pair (Kd.heap_slice 99 (Kd.heap_iso _ (Kd.heap_pair Kd.heap_string Kd.heap_string))) (Kd.heap_slice 27 hd))))))
theorem heap99 : Kd.Heap k99 := Kd.heap_iso _ (Kd.heap_pair Kd.heap_string Kd.heap_string)
theorem heap23 : Kd.Heap k23 := Kd.heap_iso _ (Kd.heap_pair (Kd.heap_int _) (Kd.heap_int _))
theorem TK.of {w : World} {x : S27} {cs : List Value} (h : k27.K w x cs) : TK w w.heap.size x cs := fun _ hW => heap27.K (fun k hlt => hW k hlt hlt) h
/-- The cells of a kid. -/
def cells27 (w : World) (p : Addr) (x : S27) (A4 : Option Addr) (c4 : Nat) (A5 : Option Addr) (c5 : Nat) : Prop :=
  w.cell? p = some (.int .i64 x.f0.f0) ∧ w.cell? ⟨p.block, p.off + 1, none⟩ = some (.int .i64 x.f0.f1) ∧ w.cell? ⟨p.block, p.off + 2, none⟩ = some (.string x.f1) ∧ w.cell? ⟨p.block, p.off + 3, none⟩ = some (.string x.f2) ∧ w.cell? ⟨p.block, p.off + 4, none⟩ = some (.slice A4 x.f3.length c4) ∧ w.cell? ⟨p.block, p.off + 5, none⟩ = some (.slice A5 x.f4.length c5)
theorem kid_at {w : World} {n0 n : Nat} {A : Option Addr} {xs : List S27} (h : Kd.F k27 w (fun k => k < n0) A n xs) (k : Nat) (hk : k < n) :
    ∃ ad A4 c4 A5 c5, A = some ad ∧ cells27 w (ad.add (k * 6)) (xs.getD k z27) A4 c4 A5 c5 ∧ TK w n0 (xs.getD k z27) [.int .i64 (xs.getD k z27).f0.f0, .int .i64 (xs.getD k z27).f0.f1, .string (xs.getD k z27).f1, .string (xs.getD k z27).f2, .slice A4 (xs.getD k z27).f3.length c4, .slice A5 (xs.getD k z27).f4.length c5] := by
  obtain ⟨ad, c, e, _, hK, hc0, _⟩ := Kd.F_get h z27 (k : Int) (Int.natCast_nonneg _) (Int.ofNat_lt.2 hk)
  rw [Int.toNat_natCast] at hK hc0
  have hc : ∀ j u, c[j]? = some u → w.cell? (ad.add (k * 6 + j)) = some u := hc0
  obtain ⟨A4, c4, A5, c5, rfl, _⟩ := k27_openF hK
  exact ⟨ad, A4, c4, A5, c5, e, ⟨hc 0 _ rfl, by rw [← add_field _ _ 1 (by omega)]; exact hc 1 _ rfl, by rw [← add_field _ _ 2 (by omega)]; exact hc 2 _ rfl, by rw [← add_field _ _ 3 (by omega)]; exact hc 3 _ rfl, by rw [← add_field _ _ 4 (by omega)]; exact hc 4 _ rfl, by rw [← add_field _ _ 5 (by omega)]; exact hc 5 _ rfl⟩, hK⟩
/-! ### What a round of a range over a tree keeps -/
/-- All lies as it lay below n0, and all nodes' cells but those of T. -/
structure Kw (n0 : Nat) (T : Nat → Prop) (W W' : World) : Prop where
  size : W.heap.size ≤ W'.heap.size
  low : ∀ i, i < n0 → W'.heap[i]? = W.heap[i]?
  cells : ∀ i c fr, ¬ T i → W.heap[i]? = some (.cells c 27 fr) → W'.heap[i]? = some (.cells c 27 fr)
theorem Kw.refl (n0 : Nat) (T : Nat → Prop) (W : World) : Kw n0 T W W := ⟨Nat.le_refl _, fun _ _ => rfl, fun _ _ _ _ h => h⟩
theorem Kw.trans {n0 : Nat} {T : Nat → Prop} {A B C : World} (h : Kw n0 T A B) (k : Kw n0 T B C) : Kw n0 T A C := ⟨Nat.le_trans h.size k.size, fun i hi => (k.low i hi).trans (h.low i hi), fun i c fr hT hi => k.cells i c fr hT (h.cells i c fr hT hi)⟩
theorem Kw.below {n0 : Nat} {T : Nat → Prop} {W W' : World} (h : Below W.heap.size W W') (hn : n0 ≤ W.heap.size) : Kw n0 T W W' := ⟨h.size, fun i hi => h.block i (Nat.lt_of_lt_of_le hi hn), fun i c fr _ hi => (h.block i (Array.getElem?_eq_some_iff.1 hi).1).trans hi⟩
theorem Kw.set {n0 o : Nat} {T : Nat → Prop} (W : World) (b : Nat) (v : Value) (hb : T b) (hn : n0 ≤ b) : Kw n0 T W (W.setCell ⟨b, o, none⟩ v) :=
  ⟨by rw [Mem.set_size]; exact Nat.le_refl _, fun i hi => Mem.set_other _ _ _ _ (by show i ≠ b; omega), fun i c fr hT hi => (Mem.set_other _ _ _ _ (by intro e; exact hT (e ▸ hb))).trans hi⟩
theorem Kw.box {n0 o b t : Nat} {T : Nat → Prop} {W : World} {c : Array Value} {fr : Nat × Nat} (h : W.heap[b]? = some (.cells c t fr)) (ht : t ≠ 27) (v : Value) (hn : n0 ≤ b) : Kw n0 T W (W.setCell ⟨b, o, none⟩ v) :=
  ⟨by rw [Mem.set_size]; exact Nat.le_refl _, fun i hi => Mem.set_other _ _ _ _ (by show i ≠ b; omega), fun i c fr hT hi => (Mem.set_other _ _ _ _ (by rintro rfl; rw [h] at hi; cases hi; exact ht rfl)).trans hi⟩
theorem Kw.grown {n0 : Nat} {T : Nat → Prop} {W W' : World} {row : Option Nat} (hg : W.grownBy W' row) (hr : ∀ k, row = some k → n0 ≤ k ∧ ∀ c fr, W.heap[k]? ≠ some (.cells c 27 fr)) (hn : n0 ≤ W.heap.size) : Kw n0 T W W' :=
  ⟨hg.size, fun i hi => hg.block i (Nat.lt_of_lt_of_le hi hn) (fun e => by have := (hr i e.symm).1; omega), fun i c fr hT hi => (hg.block i (Array.getElem?_eq_some_iff.1 hi).1 (fun e => (hr i e.symm).2 c fr hi)).trans hi⟩
theorem Kw.put {n0 : Nat} {T : Nat → Prop} (W : World) (l : Nat) (o o' : Obj) (hn : n0 ≤ l) (h : W.heap[l]? = some o) (hc : o.isCells = false) : Kw n0 T W (W.putObj l o') :=
  ⟨by simp, fun i hi => World.putObj_heap_other (by omega), fun i c fr _ hi => (World.putObj_heap_other (by rintro rfl; rw [h] at hi; cases hi; cases hc)).trans hi⟩
theorem Kw.mono {n0 n1 : Nat} {T T' : Nat → Prop} {W W' : World} (h : Kw n0 T W W') (hn : n1 ≤ n0) (hT : ∀ i, T i → T' i) : Kw n1 T' W W' := ⟨h.size, fun i hi => h.low i (Nat.lt_of_lt_of_le hi hn), fun i c fr hi => h.cells i c fr (fun h_ => hi (hT i h_))⟩
end Go.Proofs.Ytnkbgimihikhoaa.PVt
namespace Go.Proofs.Ytnkbgimihikhoaa.PVt
open Go.RowKit Go.Shelf Go.Proofs.YtnkbgimihikhoaaW.PrintWords Go.Proofs.YtnkbgimihikhoaaW.PrintLast Go.Proofs.YtnkbgimihikhoaaW.PrintMore
attribute [local go_sem] Oper.semAt_some
set_option linter.unusedVariables false
set_option linter.unusedSimpArgs false
/-- A node that is handed to a round: how many are above it, what it is, its cells. -/
structure Nd (w0 : World) (n0 : Nat) where
  d : Nat
  x : S27
  cs : List Value
  ok : TK w0 n0 x cs
  hd : d ≤ 1099511627776
def pl {w0 : World} {n0 : Nat} (p : Nd w0 n0) : Nat × S27 := (p.d, p.x)
def encN {w0 : World} {n0 : Nat} (p : Nd w0 n0) : Array Value := #[.int .i64 (p.d : Int), .agg p.cs.toArray]
theorem room_of_none {F : Fence} (hd : F.depth = none) (k : Nat) : F.room k := fun d h => by rw [hd] at h; cases h
theorem round_any {F : Fence} (hd : F.depth = none) {m m' : Nat} {P : Program} {l : Nat} {f : FuncId} {tmps : Array Value} {assign body : Code} {w : World} {R : Ending → World → Prop}
    (h : RoundIn F m P l f tmps assign body w R) : RoundIn F m' P l f tmps assign body w R := ⟨h.1, fun c cs _ => h.2 c cs (room_of_none hd _)⟩
theorem wrap_next {d m : Nat} (h : d + m ≤ 1099511627776) : wrap64 ((d : Int) + 1) = ((d + 1 : Nat) : Int) := by unfold wrap64; omega
theorem dec_lt {i q : Nat} (h : i < q) (hw : wrap64 ((i : Int) + 1) = ((i + 1 : Nat) : Int)) : q - (intOf (Value.int .i64 (wrap64 ((i : Int) + 1)))).toNat < q - (intOf (Value.int .i64 (i : Int))).toNat := by
  rw [hw]
  show q - (((i + 1 : Nat) : Int)).toNat < q - (i : Int).toNat
  omega
theorem wrap_kid {k n s z d : Nat} (h1 : k < n) (h2 : n ≤ s) (h3 : z = 1 + s) (h4 : d + z ≤ 1099511627776) : wrap64 ((k : Int) + 1) = ((k + 1 : Nat) : Int) := by unfold wrap64; omega
theorem prefix_into {α : Type} {a b c d : List α} (h : c <+: d) : a ++ c <+: a ++ (d ++ b) := by
  obtain ⟨t, ht⟩ := h
  exact ⟨t ++ b, by rw [← ht]; simp⟩
set_option maxHeartbeats 8000000 in
set_option maxRecDepth 100000 in
theorem walk_in (l n0 N B : Nat) (T : Nat → Prop) (w0 : World) (J Jx : List (Nd w0 n0) → World → Prop) (hJ : AbidesFrom B J)
    (hY : ∀ pre x W, J pre W → pre.length < N → YieldAt Fence.wide 1 Try.prog l (encN x) W fun e W' => (e = .returned (.bool true) ∧ J (pre ++ [x]) W' ∧ Kw n0 T W W') ∨ (e = .returned (.bool false) ∧ Jx (pre ++ [x]) W')) :
    ∀ (q : Nat) (d : Nat) (x : S27) (cs : List Value) (pre : List (Nd w0 n0)) (W : World), szT x ≤ q → d + szT x ≤ 1099511627776 → TK w0 n0 x cs → (∀ i, i < n0 → W.heap[i]? = w0.heap[i]?) → n0 ≤ W.heap.size → (∀ i, T i → i < W.heap.size) → J pre W → pre.length + szT x ≤ N →
      CallsIn Fence.wide 1 Try.prog 59 #[.agg cs.toArray, .int .i64 (d : Int), .func (.yield l) #[] #[]] W fun e W' =>
        (e = .returned (.bool true) ∧ (∃ ys, ys.map pl = flatD d x ∧ J (pre ++ ys) W') ∧ Kw n0 T W W') ∨ (e = .returned (.bool false) ∧ ∃ ys, ys.map pl <+: flatD d x ∧ Jx (pre ++ ys) W') := by
  intro q
  induction q with
  | zero =>
    intro d x cs pre W hq
    have := szT_pos x
    omega
  | succ q ih =>
    intro d x cs pre W hq hd hT hb hn hTl hJ0 hN
    have hsz := szT_eq x
    obtain ⟨A4, c4, A5, c5, hcs, l4, g4, l5, g5⟩ := hT.open
    subst hcs
    have HB := Aside0.mk hb
    have HTL := Aside0.mk hTl
    have hlen := szTs_len x.f4
    obtain ⟨fn, tmps, assign, body, hy, hR⟩ := hY pre ⟨d, x, _, hT, by omega⟩ (W.alloc (.cells #[.int .i64 x.f0.f0, .int .i64 x.f0.f1, .string x.f1, .string x.f2, .slice A4 x.f3.length c4, .slice A5 x.f4.length c5] 27)) (hJ _ _ _ none hJ0 (World.grownBy_alloc _ _ none) (fun r e => by cases e)) (by omega)
    dsimp only [encN] at hy
    have HF := Aside0.mk g5
    have HFF : Aside0 (flatD d x = (d, x) :: flatDs (d + 1) x.f4) := ⟨flatD_eq d x⟩
    have HT := Aside0.mk hT
    obtain ⟨nd, hnd⟩ : ∃ nd : Nd w0 n0, nd = ⟨d, x, _, hT, by omega⟩ := ⟨_, rfl⟩
    have HND : Aside0 (pl nd = (d, x)) := ⟨by rw [hnd]; rfl⟩
    rw [← hnd] at hR
    clear hnd hT hb hTl g4 g5 hJ0
    refine callsIn_of_wp Try.func59 rfl trivial ?_ rfl
    simp only [Try.ntmps59, List.size_toArray, List.length_cons, List.length_nil, Nat.reduceAdd, Nat.reduceSub, Array.replicate_succ, Array.replicate_zero, List.push_toArray, List.append_toArray, List.nil_append, List.cons_append]
    gi_wp2
    refine (round_any rfl hR).mono ?_
    rintro e W1 (⟨rfl, hJ1, hk1⟩ | ⟨rfl, hx1⟩)
    · have HJ1 := Aside0.mk hJ1
      have HK1 : Aside0 (Kw n0 T W W1) := ⟨(Kw.below (below_alloc (Below.refl _ _) _) hn).trans hk1⟩
      have HBX : Aside0 (W1.heap[W.heap.size]? = some (.cells #[.int .i64 x.f0.f0, .int .i64 x.f0.f1, .string x.f1, .string x.f2, .slice A4 x.f3.length c4, .slice A5 x.f4.length c5] 27 (0, 0))) := ⟨hk1.cells _ _ _ (fun h => Nat.lt_irrefl _ (HTL.out _ h)) (Mem.alloc_new _ _)⟩
      have b5 : W1.cell? ⟨W.heap.size, 5, none⟩ = some (.slice A5 x.f4.length c5) := Mem.cell_of HBX.out 5
      clear hJ1 hk1
      gi_wp2
      gi_loopw [17] (fun i wr => ∃ k : Nat, i = .int .i64 (k : Int) ∧ Aside0 (k ≤ x.f4.length) ∧ Aside0 (∃ ys, ys.map pl = flatDs (d + 1) (x.f4.take k) ∧ J (pre ++ nd :: ys) wr) ∧ Aside0 (Kw n0 T W wr))
        (fun i _ => x.f4.length - (intOf i).toNat)
      case atStart => exact ⟨0, rfl, ⟨Nat.zero_le _⟩, ⟨[], by simp [flatDs], HJ1.out⟩, HK1⟩
      case round =>
        obtain ⟨k, rfl, HKL, HJS, HKW⟩ := hrel
        by_cases hlt : k < x.f4.length
        · obtain ⟨ad, B4, e4, B5, e5, rfl, hcl, hTk⟩ := kid_at (Kd.F_step HF.out (fun i hi _ => (HKW.out.low i hi).trans (HB.out i hi))) k hlt
          have hTk0 : TK w0 n0 _ _ := hTk.low (fun i hi => ((HKW.out.low i hi).trans (HB.out i hi)).symm)
          have HS := Aside0.mk (flatDs_snoc (d + 1) x.f4 hlt)
          have HZ : Aside0 (szTs (x.f4.take (k + 1)) = szTs (x.f4.take k) + szT (x.f4.getD k z27) ∧ szTs (x.f4.take (k + 1)) ≤ szTs x.f4) := ⟨szTs_snoc x.f4 hlt, szTs_take _ _⟩
          obtain ⟨y, hy'⟩ : ∃ y, x.f4.getD k z27 = y := ⟨_, rfl⟩
          rw [hy'] at hcl hTk hTk0 HS HZ
          obtain ⟨p, hp⟩ : ∃ p, ad.add (k * 6) = p := ⟨_, rfl⟩
          rw [hp] at hcl
          obtain ⟨c0, c1, c2, c3, c4', c5'⟩ := hcl
          obtain ⟨ys, hys, hJs⟩ := HJS.out
          have HYS := Aside0.mk hys
          have hyl : ys.length = szTs (x.f4.take k) := by have := congrArg List.length hys; rw [List.length_map, flatDs_length] at this; exact this
          have IH := Aside0.mk (ih (d + 1) y _ (pre ++ nd :: ys) (wr.alloc (.cells #[.int .i64 y.f0.f0, .int .i64 y.f0.f1, .string y.f1, .string y.f2, .slice B4 y.f3.length e4, .slice B5 y.f4.length e5] 27))
            (by have := HZ.out; omega) (by have := HZ.out; omega) hTk0 (fun i hi => by
              have h1 : i < wr.heap.size := Nat.lt_of_lt_of_le (Nat.lt_of_lt_of_le hi hn) HKW.out.size
              exact ((below_alloc (Below.refl wr.heap.size wr) _).block i h1).trans ((HKW.out.low i hi).trans (HB.out i hi))) (Nat.le_trans (Nat.le_trans hn HKW.out.size) (by rw [Mem.alloc_size]; omega)) (fun i hi => by have := HTL.out i hi; have := HKW.out.size; rw [Mem.alloc_size]; omega)
            (hJ _ _ _ none hJs (World.grownBy_alloc _ _ none) (fun r e => by cases e)) (by rw [List.length_append, List.length_cons, hyl]; have := HZ.out; omega))
          have hw_ := wrap_next hd
          have hw2 := wrap_kid hlt hlen hsz hd
          clear hTk hTk0 hy' hys hJs hyl
          have hkn : (k : Int).toNat = k := Int.toNat_natCast k
          have hkp : (0 : Int) ≤ (k : Int) := Int.natCast_nonneg k
          clear hd hN hq hsz hlen
          gi_wp2_with (fail)
          refine ⟨trivial, ?_⟩
          refine (callsIn_wide.2 ((callsIn_wide (n := 1)).1 IH.out)).mono ?_
          rintro e W3 (⟨rfl, ⟨zs, hzs, hJ3⟩, hk3⟩ | ⟨rfl, zs, hzs, hx3⟩)
          · have HZS := Aside0.mk hzs
            have HJ3 : Aside0 (J (pre ++ nd :: (ys ++ zs)) W3) := ⟨by rw [List.append_assoc] at hJ3; exact hJ3⟩
            have HK3 : Aside0 (Kw n0 T W W3) := ⟨HKW.out.trans ((Kw.below (below_alloc (Below.refl _ _) _) (Nat.le_trans hn HKW.out.size)).trans hk3)⟩
            clear hzs hJ3 hk3 IH
            gi_wp2_with (fail)
            go_roundw
            case rel => exact ⟨k + 1, congrArg (Value.int .i64) hw2, ⟨hlt⟩, ⟨ys ++ zs, by rw [List.map_append, HYS.out, HZS.out, HS.out], HJ3.out⟩, HK3⟩
            case measure => exact dec_lt hlt hw2
          · have HZS := Aside0.mk hzs
            have HX3 : Aside0 (Jx (pre ++ nd :: (ys ++ zs)) W3) := ⟨by rw [List.append_assoc] at hx3; exact hx3⟩
            clear hzs hx3 IH
            gi_wp2_with (fail)
            refine bodyPost_ret (results_tmp rfl _ _ _) rfl ?_
            refine .inr ⟨rfl, nd :: (ys ++ zs), ?_, HX3.out⟩
            rw [HFF.out, List.map_cons, HND.out, List.map_append, HYS.out]
            have h1 : flatDs (d + 1) (x.f4.take k) ++ zs.map pl <+: flatDs (d + 1) (x.f4.take (k + 1)) := by rw [HS.out]; exact (List.prefix_append_right_inj _).2 HZS.out
            exact (List.prefix_cons_inj _).2 (h1.trans (flatDs_prefix _ _ _))
        · obtain rfl : k = x.f4.length := by have := HKL.out; omega
          gi_wp2
          refine bodyPost_ret (results_tmp rfl _ _ _) rfl ?_
          obtain ⟨ys, hys, hJs⟩ := HJS.out
          rw [List.take_length] at hys
          exact .inl ⟨rfl, ⟨nd :: ys, by rw [HFF.out, List.map_cons, HND.out, hys], hJs⟩, HKW.out⟩
    · gi_wp2
      refine bodyPost_ret (results_tmp rfl _ _ _) rfl ?_
      exact .inr ⟨rfl, [nd], by rw [HFF.out, List.map_cons, HND.out]; exact ⟨_, rfl⟩, hx1⟩
def cellsOf (x : S27) (A4 : Option Addr) (c4 : Nat) (A5 : Option Addr) (c5 : Nat) : Array Value := #[.int .i64 x.f0.f0, .int .i64 x.f0.f1, .string x.f1, .string x.f2, .slice A4 x.f3.length c4, .slice A5 x.f4.length c5]
/-- nodes hands back a function over a box of the tree. -/
theorem nodes_calls (w : World) (a b : Int) (t u : ByteArray) (v4 v5 : Value) :
    Calls Try.prog 41 #[.agg #[.int .i64 a, .int .i64 b, .string t, .string u, v4, v5]] w fun e w' => e = .returned (.func (.func 65) #[] #[.pointer (some ⟨w.heap.size, 0, none⟩)]) ∧ w' = w.alloc (.cells #[.int .i64 a, .int .i64 b, .string t, .string u, v4, v5] 27) := by
  go_enter Try.func41, Try.ntmps41
  go_wp2
  go_ret
  exact ⟨rfl, rfl⟩
set_option maxHeartbeats 8000000 in
set_option maxRecDepth 100000 in
theorem nodes_stops {w w0 : World} {n0 bx : Nat} {T : Nat → Prop} {x : S27} {A4 : Option Addr} {c4 : Nat} {A5 : Option Addr} {c5 : Nat} (hd : szT x ≤ 1099511627776)
    (hT : TK w0 n0 x [.int .i64 x.f0.f0, .int .i64 x.f0.f1, .string x.f1, .string x.f2, .slice A4 x.f3.length c4, .slice A5 x.f4.length c5]) (hb : ∀ i, i < n0 → w.heap[i]? = w0.heap[i]?) (hn : n0 ≤ w.heap.size) (hTl : ∀ i, T i → i < w.heap.size)
    (hbx : w.heap[bx]? = some (.cells #[.int .i64 x.f0.f0, .int .i64 x.f0.f1, .string x.f1, .string x.f2, .slice A4 x.f3.length c4, .slice A5 x.f4.length c5] 27 (0, 0))) :
    SeqStopsK Fence.wide 2 Try.prog 65 #[.pointer (some ⟨bx, 0, none⟩)] (encN (w0 := w0) (n0 := n0)) (Kw n0 T) (fun ys => ys.map pl = flatD 0 x) (fun ys => ys.map pl <+: flatD 0 x) (szT x) w := fun l J Jx W hW hJ hJx hY h0 => by
  have hbl := (Array.getElem?_eq_some_iff.1 hbx).1
  have hbW := (hW.block bx hbl).trans hbx
  have HW := Aside0.mk (walk_in l n0 (szT x) W.heap.size T w0 J Jx hJ hY (szT x) 0 x _ [] W (Nat.le_refl _) (by rw [Nat.zero_add]; exact hd) hT (fun i hi => (hW.block i (Nat.lt_of_lt_of_le hi hn)).trans (hb i hi)) (Nat.le_trans hn hW.size) (fun i hi => Nat.lt_of_lt_of_le (hTl i hi) hW.size) h0 (by simp))
  have a0 := Mem.cell_of hbW 0
  have a1 := Mem.cell_of hbW 1
  have a2 := Mem.cell_of hbW 2
  have a3 := Mem.cell_of hbW 3
  have a4 := Mem.cell_of hbW 4
  have a5 := Mem.cell_of hbW 5
  clear hbl hbW hbx hd hT hb hn hTl hY h0
  refine callsIn_of_wp Try.func65 rfl trivial ?_ rfl
  simp only [Try.ntmps65, List.append_toArray, List.size_toArray, List.length_cons, List.length_nil, Nat.reduceAdd, Nat.reduceSub, Array.replicate_succ, Array.replicate_zero, List.push_toArray, List.append_toArray, List.nil_append, List.cons_append]
  gi_wp2_with (fail)
  refine ⟨trivial, ?_⟩
  refine (callsIn_wide.2 ((callsIn_wide (n := 1)).1 HW.out)).mono ?_
  rintro e W3 (⟨rfl, ⟨zs, hzs, hJ3⟩, hk3⟩ | ⟨rfl, zs, hzs, hx3⟩)
  · have HZ := Aside0.mk hzs
    clear hzs
    gi_wp2_with (fail)
    go_end0
    exact ⟨⟨_, rfl⟩, .inl ⟨zs, HZ.out, hJ3⟩⟩
  · have HZ := Aside0.mk hzs
    clear hzs
    gi_wp2_with (fail)
    go_end0
    exact ⟨⟨_, rfl⟩, .inr ⟨zs, HZ.out, hx3⟩⟩
end Go.Proofs.Ytnkbgimihikhoaa.PVt
namespace Go.Proofs.Ytnkbgimihikhoaa.PVt
open Go.RowKit Go.Shelf Go.Proofs.YtnkbgimihikhoaaW.PrintWords Go.Proofs.YtnkbgimihikhoaaW.PrintLast Go.Proofs.YtnkbgimihikhoaaW.PrintMore
attribute [local go_sem] Oper.semAt_some max2_int min2_int max_two min_two
set_option linter.unusedVariables false
set_option linter.unusedSimpArgs false
/-- All blocks of U but those of T lie as they lay. -/
structure KeptT (T : Nat → Prop) (U W : World) : Prop where
  size : U.heap.size ≤ W.heap.size
  block : ∀ i, i < U.heap.size → ¬ T i → W.heap[i]? = U.heap[i]?
theorem KeptT.refl (T : Nat → Prop) (U : World) : KeptT T U U := ⟨Nat.le_refl _, fun _ _ _ => rfl⟩
theorem KeptT.on {T : Nat → Prop} {U W W' : World} (h : KeptT T U W) (hb : Below W.heap.size W W') : KeptT T U W' := ⟨Nat.le_trans h.size hb.size, fun i hi hn => (hb.block i (Nat.lt_of_lt_of_le hi h.size)).trans (h.block i hi hn)⟩
theorem KeptT.set {T : Nat → Prop} {b o : Nat} {U W : World} (h : KeptT T U W) (v : Value) (hb : T b) : KeptT T U (W.setCell ⟨b, o, none⟩ v) := ⟨Nat.le_trans h.size (Nat.le_of_eq (Mem.set_size _ _ _).symm), fun i hi hn => (Mem.set_other _ _ _ _ (fun e => hn (by cases e; exact hb))).trans (h.block i hi hn)⟩
theorem KeptT.far {T : Nat → Prop} {b o : Nat} {U W : World} (h : KeptT T U W) (v : Value) (hb : U.heap.size ≤ b) : KeptT T U (W.setCell ⟨b, o, none⟩ v) := ⟨Nat.le_trans h.size (Nat.le_of_eq (Mem.set_size _ _ _).symm), fun i hi hn => (Mem.set_other _ _ _ _ (by show i ≠ b; omega)).trans (h.block i hi hn)⟩
theorem blk_lt' {W : World} {k : Nat} {o : Obj} (h : W.heap[k]? = some o) : k < W.heap.size := (Array.getElem?_eq_some_iff.1 h).1
theorem KeptT.cells {T : Nat → Prop} {k : Nat} {U W : World} {o : Obj} (h : KeptT T U W) (hu : U.heap[k]? = some o) (hn : ¬ T k) : W.heap[k]? = some o := (h.block k (blk_lt' hu) hn).trans hu
/-- What a loop keeps beside its own cells. -/
def LK (T : Nat → Prop) (n0 : Nat) (Wb U W : World) : Prop := KeptT T U W ∧ Below n0 Wb W
theorem LK_own {β : Type} {T : Nat → Prop} {n0 : Nat} {Wb U : World} (h1 : n0 ≤ Wb.heap.size) (h2 : n0 ≤ U.heap.size) : OwnFrom U.heap.size (fun (_ : β) W => LK T n0 Wb U W) := fun s X Y row hs hg hr =>
  ⟨⟨Nat.le_trans hs.1.size hg.size, fun i hi hn => (hg.block i (Nat.lt_of_lt_of_le hi hs.1.size) (fun e' => by have := (hr i e'.symm).1; omega)).trans (hs.1.block i hi hn)⟩, ownFrom_below h1 h2 () X Y row hs.2 hg hr⟩
theorem cells_own {β : Type} (B : Nat) (t : TypeId) (f : β → Array Value) : Own (fun s W => W.heap[B]? = some (.cells (f s) t (0, 0))) := fun s X Y row hs hg hrow =>
  (hg.block B (blk_lt' hs) (fun e' => by obtain ⟨o, ho, hc⟩ := hrow B e'.symm; rw [hs] at ho; cases ho; cases hc)).trans hs
/-! ### How deep a tree is -/
def maxD (l : List (Nat × S27)) : Nat := l.foldl (fun m p => max m (p.1 + 1)) 0
theorem maxD_snoc (l : List (Nat × S27)) (p : Nat × S27) : maxD (l ++ [p]) = max (maxD l) (p.1 + 1) := by simp [maxD]
set_option maxHeartbeats 8000000 in
set_option maxRecDepth 100000 in
theorem depth_calls (w : World) (x : S27) (A4 : Option Addr) (c4 : Nat) (A5 : Option Addr) (c5 : Nat) (hd : szT x ≤ 1099511627776)
    (hT : TK w w.heap.size x [.int .i64 x.f0.f0, .int .i64 x.f0.f1, .string x.f1, .string x.f2, .slice A4 x.f3.length c4, .slice A5 x.f4.length c5]) :
    Calls Try.prog 33 #[.agg #[.int .i64 x.f0.f0, .int .i64 x.f0.f1, .string x.f1, .string x.f2, .slice A4 x.f3.length c4, .slice A5 x.f4.length c5]] w fun e w' => e = .returned (.int .i64 ((maxD (flatD 0 x) : Nat) : Int)) ∧ Below w.heap.size w w' := by
  have HT := Aside0.mk hT
  clear hT
  refine (callsIn_wide (n := 3)).1 ?_
  refine callsIn_of_wp_marks Try.func33 rfl trivial ?_ rfl
  simp only [Try.ntmps33, List.size_toArray, List.length_cons, List.length_nil, Nat.reduceAdd, Nat.reduceSub, Array.replicate_succ, Array.replicate_zero, List.push_toArray, List.append_toArray, List.nil_append, List.cons_append]
  gi_wp2_with (fail)
  refine ⟨trivial, ?_⟩
  refine (callsIn_wide.2 (nodes_calls _ _ _ _ _ _ _)).mono ?_
  rintro e w1 ⟨rfl, rfl⟩
  gi_wp2_with (fail)
  have hBU : Below w.heap.size w (((w.alloc (.cells #[.int .i64 x.f0.f0, .int .i64 x.f0.f1, .string x.f1, .string x.f2, .slice A4 x.f3.length c4, .slice A5 x.f4.length c5] 27)).alloc (.cells #[.int .i64 0] 3)).alloc (.cells #[.int .i64 x.f0.f0, .int .i64 x.f0.f1, .string x.f1, .string x.f2, .slice A4 x.f3.length c4, .slice A5 x.f4.length c5] 27)) := below_alloc (below_alloc (below_alloc (Below.refl _ _) _) _) _
  have hB3 : (((w.alloc (.cells #[.int .i64 x.f0.f0, .int .i64 x.f0.f1, .string x.f1, .string x.f2, .slice A4 x.f3.length c4, .slice A5 x.f4.length c5] 27)).alloc (.cells #[.int .i64 0] 3)).alloc (.cells #[.int .i64 x.f0.f0, .int .i64 x.f0.f1, .string x.f1, .string x.f2, .slice A4 x.f3.length c4, .slice A5 x.f4.length c5] 27)).heap[w.heap.size + 1]? = some (.cells #[.int .i64 0] 3 (0, 0)) := Mem.alloc_old (Mem.alloc_new_at _ _ _ (by rw [Mem.alloc_size])) _
  have hBX : (((w.alloc (.cells #[.int .i64 x.f0.f0, .int .i64 x.f0.f1, .string x.f1, .string x.f2, .slice A4 x.f3.length c4, .slice A5 x.f4.length c5] 27)).alloc (.cells #[.int .i64 0] 3)).alloc (.cells #[.int .i64 x.f0.f0, .int .i64 x.f0.f1, .string x.f1, .string x.f2, .slice A4 x.f3.length c4, .slice A5 x.f4.length c5] 27)).heap[w.heap.size + 1 + 1]? = some (.cells #[.int .i64 x.f0.f0, .int .i64 x.f0.f1, .string x.f1, .string x.f2, .slice A4 x.f3.length c4, .slice A5 x.f4.length c5] 27 (0, 0)) := Mem.alloc_new_at _ _ _ (by rw [Mem.alloc_size, Mem.alloc_size])
  generalize ((w.alloc (.cells #[.int .i64 x.f0.f0, .int .i64 x.f0.f1, .string x.f1, .string x.f2, .slice A4 x.f3.length c4, .slice A5 x.f4.length c5] 27)).alloc (.cells #[.int .i64 0] 3)).alloc (.cells #[.int .i64 x.f0.f0, .int .i64 x.f0.f1, .string x.f1, .string x.f2, .slice A4 x.f3.length c4, .slice A5 x.f4.length c5] 27) = U at *
  refine wpIn_rangeFunc_ownH (F := Fence.wide) (n := 3) rfl (by decide) (gf := 65) (lb := #[.pointer (some ⟨w.heap.size + 1 + 1, 0, none⟩)]) rfl trivial (enters_of Try.func65 (by kernel_rfl) rfl)
    (nodes_stops (T := fun _ => False) hd HT.out (fun i hi => hBU.block i hi) hBU.size (fun _ h => h.elim) hBX) Kw.trans (fun W l o o' hl h1 h2 _ => Kw.put W l o o' (Nat.le_trans hBU.size hl) h1 h2) (Below.refl _ _) (fun _ => rfl)
    (fun pre W => W.heap[w.heap.size + 1]? = some (.cells #[.int .i64 ((maxD (pre.map pl) : Nat) : Int)] 3 (0, 0)) ∧ LK (fun i => i = w.heap.size + 1) w.heap.size w U W)
    (fun _ _ _ => False)
    (OwnFrom.and (Own.from (cells_own _ 3 (fun (pre : List (Nd w w.heap.size)) => #[.int .i64 ((maxD (pre.map pl) : Nat) : Int)])) _) (LK_own (Nat.le_refl _) hBU.size))
    (fun _ _ _ _ _ hs _ _ => hs)
    ⟨hB3, KeptT.refl _ _, hBU⟩
    (fun y a' _ => a' = { tmps := #[.agg #[.int .i64 x.f0.f0, .int .i64 x.f0.f1, .string x.f1, .string x.f2, .slice A4 x.f3.length c4, .slice A5 x.f4.length c5], .pointer (some ⟨w.heap.size, 0, none⟩), .int .i64 0, .pointer (some ⟨w.heap.size + 1, 0, none⟩), .int .i64 (y.d : Int), .agg #[.int .i64 x.f0.f0, .int .i64 x.f0.f1, .string x.f1, .string x.f2, .slice A4 x.f3.length c4, .slice A5 x.f4.length c5], .func (.func 65) #[] #[.pointer (some ⟨w.heap.size + 1 + 1, 0, none⟩)], .int .i64 (y.d : Int), .agg y.cs.toArray, undef, undef, undef, undef, undef], defers := [] })
    (fun y a' _ X Y row hs hg hr => hs)
    ?assign ?body ?done ?stop
  case assign =>
    rintro l pre y W K hI hK
    dsimp only [encN]
    gi_wp2
    exact hK _ _ ((KeepsOthers.refl _).from _) (Kw.refl _ _ _) hI rfl
  case body =>
    rintro l pre y a' W hl ⟨r, hr⟩ ⟨h3, hK, hB⟩ rfl hlt
    have hyd := y.hd
    have c3 := Mem.cell_of h3 0
    have f3 := Mem.free_of h3 0
    have hw_ := wrap_next (d := y.d) (m := 0) hyd
    have HI := Aside0.mk (And.intro h3 (And.intro hK hB))
    clear h3 hK hB hr hyd
    gi_wp2_with (fail)
    all_goals
      refine ⟨(KeepsOthers.setCell _ _ _).from _, Kw.box HI.out.1 (by decide) _ (Nat.le_succ _), ?_, HI.out.2.1.set _ rfl, HI.out.2.2.setCell (p := ⟨w.heap.size + 1, 0, none⟩) (Nat.le_succ _) _⟩
      rw [Mem.set_heap HI.out.1 0 _, List.map_append, List.map_singleton, maxD_snoc]
      refine congrArg (fun z => some (Obj.cells #[Value.int .i64 z] 3 (0, 0))) ?_
      show _ = ((max (maxD (pre.map pl)) (y.d + 1) : Nat) : Int)
      omega
  case done =>
    rintro D ys W hD hys ⟨h3, hK, hB⟩ hKD
    have c3 := Mem.cell_of h3 0
    rw [hys] at c3
    clear hys
    gi_wp2
    refine ⟨by simp, .inl ⟨_, _, rfl, run_takeDeferred hKD, ?_⟩⟩
    exact ⟨_, results_tmp rfl _ _ _, rfl, hB.trans (belowK_b (w := U) hBU.size W D _ _ hD hKD rfl rfl)⟩
  case stop =>
    rintro D c pre W _ _ h _
    exact h.elim
/-! ### Its nodes' keys -/
section
variable {P : Program} {ops : Array Oper} {rest : List Oper} {o : Oper} {a : Act} {Q : Exit → Act → World → Prop} {α : Type} {F : Fence} {nF : Nat}
/-- An append to a row of one's own, inside a fence. -/
theorem R_append_in (d : Kd α) {W : World} (base : Nat) (hgd : o.guard = none) (s x : Operand) (t e : TypeId) (z : Value) (bytes : Nat)
    (ho : o.op = .call { callee := .builtin .append, args := #[s, x], argTypes := #[t, t] })
    (ht : P.underlying t = some (.slice e)) (hinfo : (P.info? e).map (fun i => (i.zero, i.size, i.bytes)) = some (some z, d.sz, bytes)) (hz : z.cells.size = d.sz) (hs0 : 0 < d.sz) (hb0 : 0 < bytes)
    (v : Value) (xs : List α) (p : α) (cs : List Value) (ok okp : Nat → Prop) (hs : a.eval s = v) (hx : a.eval x = .slice (some ⟨W.heap.size, 0, none⟩) 1 1) (hp : d.M W base okp p cs) (hokp : ∀ k, okp k → ok k ∧ some k ≠ v.ownBlock) (hfresh : ∀ k, W.heap.size ≤ k → ok k)
    (HO : d.R e W base ok v xs) (hbase : base ≤ W.heap.size) (hl : (xs.length + 1) * bytes ≤ 140737488355328)
    (h : ∀ v1 w1, d.R e w1 base ok v1 (xs ++ [p]) → W.grownBy w1 v.ownBlock → wpListIn F nF P ops Q rest (a.put o.dst v1) w1) :
    wpListIn F nF P ops Q (o :: rest) a (W.alloc (.cells cs.toArray e)) := by
  obtain ⟨h0, inner, hown, hr⟩ := HO
  obtain ⟨i0, hi, hzz⟩ := Option.map_eq_some_iff.1 hinfo
  simp only [Prod.mk.injEq] at hzz
  obtain ⟨hz0, hz1, hz2⟩ := hzz
  have hlen : xs.length + 1 ≤ 140737488355328 := Nat.le_trans (Nat.le_mul_of_pos_right _ hb0) hl
  have hys := d.K_len (d.K_of_M hp)
  refine Go.wpListIn_append_own_at (w := W.alloc (.cells cs.toArray e)) hgd s x t ho base e i0 z d.sz bytes ht hi hz0 hz1 hz2 hz hs0 v xs.length inner hs (hown.alloc _) ⟨W.heap.size, 0, none⟩ 1 1 cs hx (by rw [hys]; simp)
    (by simpa using World.news_of_block (cs := cs.toArray) (t := e) (fr := (0, 0)) (heap_alloc_new W (.cells cs.toArray e))) (d.K_one (d.K_of_M hp)) (by simp only [maxLen]; omega) hl (by simp; omega) ?_
  intro v1 w1 hown1 hg _ hat
  have hg1 := World.grownBy.trans (World.grownBy_alloc W _ _) hg
  refine h v1 w1 (Kd.R_appended h0 hr hp hokp hfresh hown1 hg1 ?_) hg1
  rcases hat with hat | hat
  · exact .inl hat
  · exact .inr ⟨_, hat, by simp⟩
end
def keysP (l : List (Nat × S27)) : List S23 := l.map fun p => p.2.f0
theorem R_of_own_grown {α : Type} {d : Kd α} {e B : Nat} {base : Nat} {X Y : World} {v : Value} {xs : List α} {row : Option Nat} (h : d.R e X base (fun _ => True) v xs) (hg : X.grownBy Y row) (hr : ∀ r, row = some r → B ≤ r ∧ ∃ o : Obj, X.heap[r]? = some o ∧ o.isCells = false) : d.R e Y base (fun _ => True) v xs :=
  Kd.R_mono (Kd.R_grown (Kd.R_bound h) hg (fun k hk e' => by obtain ⟨_, _, _, q, _, cells, hc⟩ := hk; obtain ⟨_, o, ho, hn⟩ := hr k e'.symm; rw [hc] at ho; cases ho; cases hn)) (fun _ _ => trivial)
/-- Between two rounds: the keys that have come. -/
def KeysI (w0 : World) (n0 b3 : Nat) (Wb U : World) (pre : List (Nd w0 n0)) (W : World) : Prop :=
  (∃ v, W.heap[b3]? = some (.cells #[v] 48 (0, 0)) ∧ k23.R 23 W U.heap.size (fun _ => True) v (keysP (pre.map pl))) ∧ LK (fun i => i = b3) Wb.heap.size Wb U W
theorem KeysI_own {w0 : World} {n0 b3 : Nat} {Wb U : World} (h2 : Wb.heap.size ≤ U.heap.size) : OwnFrom U.heap.size (KeysI w0 n0 b3 Wb U) := fun s X Y row hs hg hr => by
  obtain ⟨⟨v, hb, hR⟩, hL⟩ := hs
  exact ⟨⟨v, (Own.from (cells_own b3 48 (fun (_ : Unit) => #[v])) U.heap.size) () X Y row hb hg hr, R_of_own_grown hR hg hr⟩, LK_own (β := Unit) (Nat.le_refl _) h2 () X Y row hL hg hr⟩
theorem LK.grown {T : Nat → Prop} {n0 : Nat} {Wb U W W' : World} {row : Option Nat} (h : LK T n0 Wb U W) (hg : W.grownBy W' row) (hr : ∀ k, row = some k → U.heap.size ≤ k) (hn : n0 ≤ U.heap.size) : LK T n0 Wb U W' :=
  ⟨⟨Nat.le_trans h.1.size hg.size, fun i hi hT => (hg.block i (Nat.lt_of_lt_of_le hi h.1.size) (fun e => by have := hr i e.symm; omega)).trans (h.1.block i hi hT)⟩, h.2.grown hg (Nat.le_trans hn h.1.size) (fun k e => Nat.le_trans hn (hr k e))⟩
theorem LK.on {T : Nat → Prop} {n0 : Nat} {Wb U W W' : World} (h : LK T n0 Wb U W) (hb : Below W.heap.size W W') (hn : n0 ≤ U.heap.size) : LK T n0 Wb U W' := ⟨h.1.on hb, h.2.trans (hb.mono (Nat.le_trans hn h.1.size))⟩
theorem LK.set {T : Nat → Prop} {n0 b o : Nat} {Wb U W : World} (h : LK T n0 Wb U W) (v : Value) (hT : T b) (hn : n0 ≤ b) : LK T n0 Wb U (W.setCell ⟨b, o, none⟩ v) := ⟨h.1.set v hT, h.2.setCell (p := ⟨b, o, none⟩) hn _⟩
set_option maxHeartbeats 8000000 in
set_option maxRecDepth 100000 in
theorem keys_calls (w : World) (x : S27) (A4 : Option Addr) (c4 : Nat) (A5 : Option Addr) (c5 : Nat) (hd : szT x ≤ 1099511627776)
    (hT : TK w w.heap.size x [.int .i64 x.f0.f0, .int .i64 x.f0.f1, .string x.f1, .string x.f2, .slice A4 x.f3.length c4, .slice A5 x.f4.length c5]) :
    Calls Try.prog 22 #[.agg #[.int .i64 x.f0.f0, .int .i64 x.f0.f1, .string x.f1, .string x.f2, .slice A4 x.f3.length c4, .slice A5 x.f4.length c5]] w fun e w' => ∃ v, e = .returned v ∧ k23.R 23 w' w.heap.size (fun _ => True) v (keysP (flatD 0 x)) ∧ Below w.heap.size w w' := by
  have HT := Aside0.mk hT
  clear hT
  refine (callsIn_wide (n := 3)).1 ?_
  refine callsIn_of_wp_marks Try.func22 rfl trivial ?_ rfl
  simp only [Try.ntmps22, List.size_toArray, List.length_cons, List.length_nil, Nat.reduceAdd, Nat.reduceSub, Array.replicate_succ, Array.replicate_zero, List.push_toArray, List.append_toArray, List.nil_append, List.cons_append]
  gi_wp2_with (fail)
  refine ⟨trivial, ?_⟩
  refine (callsIn_wide.2 (nodes_calls _ _ _ _ _ _ _)).mono ?_
  rintro e w1 ⟨rfl, rfl⟩
  gi_wp2_with (fail)
  have hBU : Below w.heap.size w (((w.alloc (.cells #[.int .i64 x.f0.f0, .int .i64 x.f0.f1, .string x.f1, .string x.f2, .slice A4 x.f3.length c4, .slice A5 x.f4.length c5] 27)).alloc (.cells #[.slice none 0 0] 48)).alloc (.cells #[.int .i64 x.f0.f0, .int .i64 x.f0.f1, .string x.f1, .string x.f2, .slice A4 x.f3.length c4, .slice A5 x.f4.length c5] 27)) := below_alloc (below_alloc (below_alloc (Below.refl _ _) _) _) _
  have hB3 : (((w.alloc (.cells #[.int .i64 x.f0.f0, .int .i64 x.f0.f1, .string x.f1, .string x.f2, .slice A4 x.f3.length c4, .slice A5 x.f4.length c5] 27)).alloc (.cells #[.slice none 0 0] 48)).alloc (.cells #[.int .i64 x.f0.f0, .int .i64 x.f0.f1, .string x.f1, .string x.f2, .slice A4 x.f3.length c4, .slice A5 x.f4.length c5] 27)).heap[w.heap.size + 1]? = some (.cells #[.slice none 0 0] 48 (0, 0)) := Mem.alloc_old (Mem.alloc_new_at _ _ _ (by rw [Mem.alloc_size])) _
  have hBX : (((w.alloc (.cells #[.int .i64 x.f0.f0, .int .i64 x.f0.f1, .string x.f1, .string x.f2, .slice A4 x.f3.length c4, .slice A5 x.f4.length c5] 27)).alloc (.cells #[.slice none 0 0] 48)).alloc (.cells #[.int .i64 x.f0.f0, .int .i64 x.f0.f1, .string x.f1, .string x.f2, .slice A4 x.f3.length c4, .slice A5 x.f4.length c5] 27)).heap[w.heap.size + 1 + 1]? = some (.cells #[.int .i64 x.f0.f0, .int .i64 x.f0.f1, .string x.f1, .string x.f2, .slice A4 x.f3.length c4, .slice A5 x.f4.length c5] 27 (0, 0)) := Mem.alloc_new_at _ _ _ (by rw [Mem.alloc_size, Mem.alloc_size])
  generalize ((w.alloc (.cells #[.int .i64 x.f0.f0, .int .i64 x.f0.f1, .string x.f1, .string x.f2, .slice A4 x.f3.length c4, .slice A5 x.f4.length c5] 27)).alloc (.cells #[.slice none 0 0] 48)).alloc (.cells #[.int .i64 x.f0.f0, .int .i64 x.f0.f1, .string x.f1, .string x.f2, .slice A4 x.f3.length c4, .slice A5 x.f4.length c5] 27) = U at *
  refine wpIn_rangeFunc_ownH (F := Fence.wide) (n := 3) rfl (by decide) (gf := 65) (lb := #[.pointer (some ⟨w.heap.size + 1 + 1, 0, none⟩)]) rfl trivial (enters_of Try.func65 (by kernel_rfl) rfl)
    (nodes_stops (T := fun _ => False) hd HT.out (fun i hi => hBU.block i hi) hBU.size (fun _ h => h.elim) hBX) Kw.trans (fun W l o o' hl h1 h2 _ => Kw.put W l o o' (Nat.le_trans hBU.size hl) h1 h2) (Below.refl _ _) (fun _ => rfl)
    (KeysI w w.heap.size (w.heap.size + 1) w U)
    (fun _ _ _ => False)
    (KeysI_own hBU.size)
    (fun _ _ _ _ _ hs _ _ => hs)
    ⟨⟨_, hB3, Kd.R_nil _ _ _ _ _⟩, KeptT.refl _ _, hBU⟩
    (fun y a' Wr => ∃ Bx, U.heap.size ≤ Bx ∧ Wr.heap[Bx]? = some (.cells y.cs.toArray 27 (0, 0)) ∧ a' = { tmps := #[.agg #[.int .i64 x.f0.f0, .int .i64 x.f0.f1, .string x.f1, .string x.f2, .slice A4 x.f3.length c4, .slice A5 x.f4.length c5], .pointer (some ⟨w.heap.size, 0, none⟩), .slice none 0 0, .pointer (some ⟨w.heap.size + 1, 0, none⟩), undef, .pointer (some ⟨Bx, 0, none⟩), .agg #[.int .i64 x.f0.f0, .int .i64 x.f0.f1, .string x.f1, .string x.f2, .slice A4 x.f3.length c4, .slice A5 x.f4.length c5], .func (.func 65) #[] #[.pointer (some ⟨w.heap.size + 1 + 1, 0, none⟩)], .int .i64 (y.d : Int), .agg y.cs.toArray, undef, undef, undef, undef, undef, undef], defers := [] })
    (fun y a' _ X Y row hs hg hr => by obtain ⟨Bx, h1, h2, h3⟩ := hs; exact ⟨Bx, h1, cells_own Bx 27 (fun (_ : Unit) => y.cs.toArray) () X Y row h2 hg (fun r e => (hr r e).2), h3⟩)
    ?assign ?body ?done ?stop
  case assign =>
    rintro l pre ⟨yd, y, ycs, yok, yhd⟩ W K hI hK
    obtain ⟨B4, e4, B5, e5, rfl, _⟩ := yok.open
    dsimp only [encN]
    gi_wp2
    have hbl : Below W.heap.size W (W.alloc (.cells #[.int .i64 y.f0.f0, .int .i64 y.f0.f1, .string y.f1, .string y.f2, .slice B4 y.f3.length e4, .slice B5 y.f4.length e5] 27)) := below_alloc (Below.refl _ _) _
    obtain ⟨⟨v, hv, hR⟩, hL⟩ := hI
    exact hK _ _ ((KeepsOthers.alloc _ _).from _) (Kw.below hbl hL.2.size) ⟨⟨v, Mem.alloc_old hv _, Kd.R_below hR hbl⟩, hL.on hbl hBU.size⟩ ⟨W.heap.size, hL.1.size, Mem.alloc_new _ _, rfl⟩
  case body =>
    rintro l pre ⟨yd, y, ycs, yok, yhd⟩ a' W hl ⟨r, hr⟩ ⟨⟨v, hv, hR⟩, hL⟩ ⟨Bx, hBx, bX, rfl⟩ hlt
    obtain ⟨B4, e4, B5, e5, rfl, _⟩ := yok.open
    have c3 := Mem.cell_of hv 0
    have x0 := Mem.cell_of bX 0
    have x1 := Mem.cell_of bX 1
    have HL := Aside0.mk hL
    have HV := Aside0.mk hv
    have HR := Aside0.mk hR
    clear hL hv bX hr
    gi_wp2_with (gi_at_builtin; refine R_append_in k23 (W := W) U.heap.size rfl _ _ 48 23 _ 16 rfl Try.underlying48 info23 rfl (by decide) (by decide) v (keysP (pre.map pl)) y.f0 [.int .i64 y.f0.f0, .int .i64 y.f0.f1] (fun _ => True) (fun _ => False) rfl rfl (k23_mkM _ _ _ _) (fun _ h => h.elim) (fun _ _ => trivial) HR.out HL.out.1.size ?len ?_; (case len => unfold keysP; rw [List.length_map, List.length_map]; omega); intro v1 w1 hR1 hg1; obtain ⟨A1, c1, rfl⟩ := Kd.R_slice hR1; have HR1 := Aside0.mk hR1; have HG1 := Aside0.mk hg1; have HV1 : Aside0 (w1.heap[w.heap.size + 1]? = some (.cells #[v] 48 (0, 0))) := ⟨(hg1.block _ (blk_lt' HV.out) (Kd.R_ne HR.out HV.out (by decide))).trans HV.out⟩; clear hR1 hg1 c3 x0 x1; have c3 := Mem.cell_of HV1.out 0; have f3 := Mem.free_of HV1.out 0)
    have hty := Kd.R_typed HR.out
    have hba := Kd.R_base HR.out
    refine ⟨((KeepsOthers.of_grownBy HG1.out (fun j o e ho => by obtain ⟨c_, hc_⟩ := hty j e; rw [hc_] at ho; cases ho; rfl)).trans (KeepsOthers.setCell _ _ _)).from _,
      (Kw.grown HG1.out (fun k e => ⟨Nat.le_trans hBU.size (hba k e), fun c_ fr_ hc_ => by obtain ⟨c2_, h2_⟩ := hty k e; rw [h2_] at hc_; cases hc_⟩) HL.out.2.size).trans (Kw.box HV1.out (by decide) _ (Nat.le_succ _)),
      ⟨_, Mem.set_heap HV1.out 0 _, ?_⟩, (HL.out.grown HG1.out hba hBU.size).set _ rfl (Nat.le_succ _)⟩
    rw [List.map_append]
    have hk : keysP (pre.map pl ++ [pl (⟨yd, y, _, yok, yhd⟩ : Nd w w.heap.size)]) = keysP (pre.map pl) ++ [y.f0] := by unfold keysP; rw [List.map_append]; rfl
    rw [List.map_singleton, hk]
    have h_ := Kd.R_set HR1.out HV1.out (by decide) 0 (.slice A1 ((keysP (pre.map pl)).length + 1) c1)
    rw [List.length_append] at h_
    exact h_
  case done =>
    rintro D ys W hD hys ⟨⟨v, hv, hR⟩, hL⟩ hKD
    have c3 := Mem.cell_of hv 0
    rw [hys] at hR
    clear hys
    gi_wp2
    refine ⟨by simp, .inl ⟨_, _, rfl, run_takeDeferred hKD, ?_⟩⟩
    exact ⟨_, results_tmp rfl _ _ _, v, rfl, Kd.R_lower (Kd.R_mono (Kd.R_move (Kd.R_bound hR) (fun k hk => World.putObj_heap_other (by rintro rfl; obtain ⟨_, _, _, q, _, cells, hc⟩ := hk; rw [hKD] at hc; cases hc))) (fun _ _ => trivial)) hBU.size, hL.2.trans (belowK_b (w := U) hBU.size W D _ _ hD hKD rfl rfl)⟩
  case stop =>
    rintro D c pre W _ _ h _
    exact h.elim
end Go.Proofs.Ytnkbgimihikhoaa.PVt
