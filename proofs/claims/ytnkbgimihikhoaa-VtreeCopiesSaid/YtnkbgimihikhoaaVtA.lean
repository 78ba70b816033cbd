/- Trees: their nodes in order, and what a tree that is read keeps. -/
import Derived.RangeFuncNested
import Derived.Test.YtnkbgimihikhoaaPVtx0
import Derived.Test.YtnkbgimihikhoaaMem
namespace Go.Proofs.Ytnkbgimihikhoaa.PVt
open Go.RowKit Go.Proofs.YtnkbgimihikhoaaW.PrintWords Go.Proofs.YtnkbgimihikhoaaW.PrintLast Go.Proofs.YtnkbgimihikhoaaW.PrintMore
set_option linter.unusedVariables false
mutual
/-- A tree's nodes in its order, each with how many are above it. -/
def flatD : Nat → S27 → List (Nat × S27)
  | d, ⟨k, t, x, a, l⟩ => (d, ⟨k, t, x, a, l⟩) :: flatDs (d + 1) l
def flatDs : Nat → List S27 → List (Nat × S27)
  | _, [] => []
  | d, x :: l => flatD d x ++ flatDs d l
end
mutual
/-- How many nodes there are. -/
def szT : S27 → Nat
  | ⟨_, _, _, _, l⟩ => 1 + szTs l
def szTs : List S27 → Nat
  | [] => 0
  | x :: l => szT x + szTs l
end
theorem flatD_eq (d : Nat) (x : S27) : flatD d x = (d, x) :: flatDs (d + 1) x.f4 := by cases x; simp [flatD]
theorem szT_eq (x : S27) : szT x = 1 + szTs x.f4 := by cases x; simp [szT]
theorem flatDs_append (d : Nat) : ∀ l m : List S27, flatDs d (l ++ m) = flatDs d l ++ flatDs d m
  | [], m => by simp [flatDs]
  | x :: l, m => by simp [flatDs, flatDs_append d l m]
theorem szTs_append : ∀ l m : List S27, szTs (l ++ m) = szTs l + szTs m
  | [], m => by simp [szTs]
  | x :: l, m => by simp [szTs, szTs_append l m]; omega
theorem take_snoc27 (l : List S27) {k : Nat} (h : k < l.length) : l.take (k + 1) = l.take k ++ [l.getD k z27] := by
  rw [List.take_add_one, List.getD_eq_getElem?_getD, List.getElem?_eq_getElem h]; rfl
theorem flatDs_snoc (d : Nat) (l : List S27) {k : Nat} (h : k < l.length) : flatDs d (l.take (k + 1)) = flatDs d (l.take k) ++ flatD d (l.getD k z27) := by
  rw [take_snoc27 l h, flatDs_append]; simp [flatDs]
theorem szTs_snoc (l : List S27) {k : Nat} (h : k < l.length) : szTs (l.take (k + 1)) = szTs (l.take k) + szT (l.getD k z27) := by
  rw [take_snoc27 l h, szTs_append]; simp [szTs]
theorem szTs_take (l : List S27) (k : Nat) : szTs (l.take k) ≤ szTs l := by
  have h := szTs_append (l.take k) (l.drop k)
  rw [List.take_append_drop] at h
  omega
theorem szT_kid (l : List S27) {k : Nat} (h : k < l.length) : szT (l.getD k z27) ≤ szTs l := by
  have h1 := szTs_snoc l h
  have h2 := szTs_take l (k + 1)
  omega
mutual
theorem flatD_length : ∀ (d : Nat) (x : S27), (flatD d x).length = szT x
  | d, ⟨k, t, x, a, l⟩ => by simp [flatD, szT, flatDs_length (d + 1) l]; omega
theorem flatDs_length : ∀ (d : Nat) (l : List S27), (flatDs d l).length = szTs l
  | _, [] => by simp [flatDs, szTs]
  | d, x :: l => by simp [flatDs, szTs, flatD_length d x, flatDs_length d l]
end
theorem szT_pos (x : S27) : 0 < szT x := by rw [szT_eq]; omega
theorem szTs_len : ∀ l : List S27, l.length ≤ szTs l
  | [] => by simp
  | x :: l => by have h1 := szT_pos x; have h2 := szTs_len l; simp [szTs]; omega
theorem flatDs_prefix (d : Nat) (l : List S27) (k : Nat) : flatDs d (l.take k) <+: flatDs d l := ⟨flatDs d (l.drop k), by rw [← flatDs_append, List.take_append_drop]⟩
/-! ### A tree that is read -/
/-- The node x lies as the cells cs, with all beneath it in blocks below n0. -/
def TK (w : World) (n0 : Nat) (x : S27) (cs : List Value) : Prop := Kd.FK k27 w (fun k => k < n0) x cs
theorem TK.low {w w1 : World} {n0 : Nat} {x : S27} {cs : List Value} (h : TK w n0 x cs) (hb : ∀ i, i < n0 → w1.heap[i]? = w.heap[i]?) : TK w1 n0 x cs := Kd.FK_step h (fun k hk _ => hb k hk)
theorem TK.open {w : World} {n0 : Nat} {x : S27} {cs : List Value} (h : TK w n0 x cs) : ∃ A4 c4 A5 c5, cs = [.int .i64 x.f0.f0, .int .i64 x.f0.f1, .string x.f1, .string x.f2, .slice A4 x.f3.length c4, .slice A5 x.f4.length c5] ∧ x.f3.length ≤ c4 ∧ Kd.F k99 w (fun k => k < n0) A4 x.f3.length x.f3 ∧ x.f4.length ≤ c5 ∧ Kd.F k27 w (fun k => k < n0) A5 x.f4.length x.f4 := k27_openF h
theorem heap27 : Kd.Heap k27 := Kd.heap_fix (fun d hd => Kd.heap_iso _ (Kd.heap_pair (Kd.heap_iso _ (Kd.heap_pair (Kd.heap_int _) (Kd.heap_int _))) (Kd.heap_pair Kd.heap_string (Kd.heap_pair Kd.heap_string (Kd.heap_pair (Kd.heap_slice 99 (Kd.heap_iso _ (Kd.heap_pair Kd.heap_string Kd.heap_string))) (Kd.heap_slice 27 hd))))))
theorem heap99 : Kd.Heap k99 := Kd.heap_iso _ (Kd.heap_pair Kd.heap_string Kd.heap_string)
theorem heap23 : Kd.Heap k23 := Kd.heap_iso _ (Kd.heap_pair (Kd.heap_int _) (Kd.heap_int _))
theorem TK.of {w : World} {x : S27} {cs : List Value} (h : k27.K w x cs) : TK w w.heap.size x cs := fun _ hW => heap27.K (fun k hlt => hW k hlt hlt) h
/-- The cells of a kid. -/
def cells27 (w : World) (p : Addr) (x : S27) (A4 : Option Addr) (c4 : Nat) (A5 : Option Addr) (c5 : Nat) : Prop :=
  w.cell? p = some (.int .i64 x.f0.f0) ∧ w.cell? ⟨p.block, p.off + 1, none⟩ = some (.int .i64 x.f0.f1) ∧ w.cell? ⟨p.block, p.off + 2, none⟩ = some (.string x.f1) ∧ w.cell? ⟨p.block, p.off + 3, none⟩ = some (.string x.f2) ∧ w.cell? ⟨p.block, p.off + 4, none⟩ = some (.slice A4 x.f3.length c4) ∧ w.cell? ⟨p.block, p.off + 5, none⟩ = some (.slice A5 x.f4.length c5)
theorem kid_at {w : World} {n0 n : Nat} {A : Option Addr} {xs : List S27} (h : Kd.F k27 w (fun k => k < n0) A n xs) (k : Nat) (hk : k < n) :
    ∃ ad A4 c4 A5 c5, A = some ad ∧ cells27 w (ad.add (k * 6)) (xs.getD k z27) A4 c4 A5 c5 ∧ TK w n0 (xs.getD k z27) [.int .i64 (xs.getD k z27).f0.f0, .int .i64 (xs.getD k z27).f0.f1, .string (xs.getD k z27).f1, .string (xs.getD k z27).f2, .slice A4 (xs.getD k z27).f3.length c4, .slice A5 (xs.getD k z27).f4.length c5] := by
  obtain ⟨ad, c, e, _, hK, hc0, _⟩ := Kd.F_get h z27 (k : Int) (Int.natCast_nonneg _) (Int.ofNat_lt.2 hk)
  rw [Int.toNat_natCast] at hK hc0
  have hc : ∀ j u, c[j]? = some u → w.cell? (ad.add (k * 6 + j)) = some u := hc0
  obtain ⟨A4, c4, A5, c5, rfl, _⟩ := k27_openF hK
  exact ⟨ad, A4, c4, A5, c5, e, ⟨hc 0 _ rfl, by rw [← add_field _ _ 1 (by omega)]; exact hc 1 _ rfl, by rw [← add_field _ _ 2 (by omega)]; exact hc 2 _ rfl, by rw [← add_field _ _ 3 (by omega)]; exact hc 3 _ rfl, by rw [← add_field _ _ 4 (by omega)]; exact hc 4 _ rfl, by rw [← add_field _ _ 5 (by omega)]; exact hc 5 _ rfl⟩, hK⟩
/-! ### What a round of a range over a tree keeps -/
/-- All lies as it lay below n0, and all nodes' cells but those of T. -/
structure Kw (n0 : Nat) (T : Nat → Prop) (W W' : World) : Prop where
  size : W.heap.size ≤ W'.heap.size
  low : ∀ i, i < n0 → W'.heap[i]? = W.heap[i]?
  cells : ∀ i c fr, ¬ T i → W.heap[i]? = some (.cells c 27 fr) → W'.heap[i]? = some (.cells c 27 fr)
theorem Kw.refl (n0 : Nat) (T : Nat → Prop) (W : World) : Kw n0 T W W := ⟨Nat.le_refl _, fun _ _ => rfl, fun _ _ _ _ h => h⟩
theorem Kw.trans {n0 : Nat} {T : Nat → Prop} {A B C : World} (h : Kw n0 T A B) (k : Kw n0 T B C) : Kw n0 T A C := ⟨Nat.le_trans h.size k.size, fun i hi => (k.low i hi).trans (h.low i hi), fun i c fr hT hi => k.cells i c fr hT (h.cells i c fr hT hi)⟩
theorem Kw.below {n0 : Nat} {T : Nat → Prop} {W W' : World} (h : Below W.heap.size W W') (hn : n0 ≤ W.heap.size) : Kw n0 T W W' := ⟨h.size, fun i hi => h.block i (Nat.lt_of_lt_of_le hi hn), fun i c fr _ hi => (h.block i (Array.getElem?_eq_some_iff.1 hi).1).trans hi⟩
theorem Kw.set {n0 o : Nat} {T : Nat → Prop} (W : World) (b : Nat) (v : Value) (hb : T b) (hn : n0 ≤ b) : Kw n0 T W (W.setCell ⟨b, o, none⟩ v) :=
  ⟨by rw [Mem.set_size]; exact Nat.le_refl _, fun i hi => Mem.set_other _ _ _ _ (by show i ≠ b; omega), fun i c fr hT hi => (Mem.set_other _ _ _ _ (by intro e; exact hT (e ▸ hb))).trans hi⟩
theorem Kw.box {n0 o b t : Nat} {T : Nat → Prop} {W : World} {c : Array Value} {fr : Nat × Nat} (h : W.heap[b]? = some (.cells c t fr)) (ht : t ≠ 27) (v : Value) (hn : n0 ≤ b) : Kw n0 T W (W.setCell ⟨b, o, none⟩ v) :=
  ⟨by rw [Mem.set_size]; exact Nat.le_refl _, fun i hi => Mem.set_other _ _ _ _ (by show i ≠ b; omega), fun i c fr hT hi => (Mem.set_other _ _ _ _ (by rintro rfl; rw [h] at hi; cases hi; exact ht rfl)).trans hi⟩
theorem Kw.grown {n0 : Nat} {T : Nat → Prop} {W W' : World} {row : Option Nat} (hg : W.grownBy W' row) (hr : ∀ k, row = some k → n0 ≤ k ∧ ∀ c fr, W.heap[k]? ≠ some (.cells c 27 fr)) (hn : n0 ≤ W.heap.size) : Kw n0 T W W' :=
  ⟨hg.size, fun i hi => hg.block i (Nat.lt_of_lt_of_le hi hn) (fun e => by have := (hr i e.symm).1; omega), fun i c fr hT hi => (hg.block i (Array.getElem?_eq_some_iff.1 hi).1 (fun e => (hr i e.symm).2 c fr hi)).trans hi⟩
theorem Kw.put {n0 : Nat} {T : Nat → Prop} (W : World) (l : Nat) (o o' : Obj) (hn : n0 ≤ l) (h : W.heap[l]? = some o) (hc : o.isCells = false) : Kw n0 T W (W.putObj l o') :=
  ⟨by simp, fun i hi => World.putObj_heap_other (by omega), fun i c fr _ hi => (World.putObj_heap_other (by rintro rfl; rw [h] at hi; cases hi; cases hc)).trans hi⟩
theorem Kw.mono {n0 n1 : Nat} {T T' : Nat → Prop} {W W' : World} (h : Kw n0 T W W') (hn : n1 ≤ n0) (hT : ∀ i, T i → T' i) : Kw n1 T' W W' := ⟨h.size, fun i hi => h.low i (Nat.lt_of_lt_of_le hi hn), fun i c fr hi => h.cells i c fr (fun h_ => hi (hT i h_))⟩
end Go.Proofs.Ytnkbgimihikhoaa.PVt
